/- Several texts in one: Plain: a table that Compact makes is right and tells its samples; a table's samples make a table that is not longer. Conditions as stated; Plain: the samples of a track lie where its table tells, and give its bytes. Conditions as stated; Boxes of a film in memory, more. No condition; Boxes in plain words: what is wrong with them, how many bytes they have, and their bytes. Plain. -/
import Derived.Test.YtlonhkjplijlcaaMfd35
import Derived.Test.YtlonhkjplijlcaaMfd29
import Derived.Test.YtlonhkjplijlcaaMfd03
import Derived.Test.YtlonhkjplijlcaaMfd07
namespace Go.Proofs.Ytlonhkjplijlcaa
structure CmpR (l : List Smp) (ch pl : List Int) : Prop where
  smp : smpF l = 0
  len : ch.length = pl.length
  cq : ∀ i, i < ch.length → 1 ≤ ch.getD i 0 ∧ ch.getD i 0 ≤ 1000
  sum : sumI ch ch.length = (l.length : Int)
  ql : firstF (plEl pl) pl.length = 0
theorem cmp_parts {l : List Smp} {ch pl : List Int} (h : cmpF l ch pl = 0) : CmpR l ch pl := by
  unfold cmpF at h
  by_cases h1 : smpF l ≠ 0
  · rw [if_pos h1] at h; exact absurd h h1
  rw [if_neg h1] at h
  by_cases h2 : ch.length ≠ pl.length
  · rw [if_pos h2] at h; omega
  rw [if_neg h2] at h
  by_cases h3 : firstF (cqEl ch) ch.length ≠ 0
  · rw [if_pos h3] at h; omega
  rw [if_neg h3] at h
  by_cases h4 : sumI ch ch.length ≠ (l.length : Int)
  · rw [if_pos h4] at h; omega
  rw [if_neg h4] at h
  by_cases h5 : firstF (qlEl pl) pl.length ≠ 0
  · rw [if_pos h5] at h; omega
  refine ⟨by omega, by omega, fun i hi => ?_, by omega, by have : firstF (qlEl pl) pl.length = 0 := by omega
                                                           exact this⟩
  have h6 := firstF_all (by omega : firstF (cqEl ch) ch.length = 0) i hi
  unfold cqEl at h6
  by_cases h7 : ch.getD i 0 < 1 ∨ 1000 < ch.getD i 0
  · rw [if_pos h7] at h6; omega
  · omega
theorem cmp_of {l : List Smp} {ch pl : List Int} (h : CmpR l ch pl) : cmpF l ch pl = 0 := by
  unfold cmpF
  have h3 : firstF (cqEl ch) ch.length = 0 := firstF_zero (fun i hi => by
    have := h.cq i hi
    unfold cqEl; rw [if_neg (by omega)])
  have h5 : firstF (qlEl pl) pl.length = 0 := h.ql
  rw [if_neg (by have := h.smp; omega), if_neg (by have := h.len; omega), if_neg (by omega), if_neg (by have := h.sum; omega), if_neg (by omega)]
theorem smp_bd {l : List Smp} (h : smpF l = 0) {i : Nat} (hi : i < l.length) : (-1000000000000000 ≤ (l.getD i dS).time ∧ (l.getD i dS).time ≤ 1000000000000000) ∧ (0 ≤ (l.getD i dS).step ∧ (l.getD i dS).step ≤ 1000000000) ∧ (-1000000000 ≤ (l.getD i dS).shift ∧ (l.getD i dS).shift ≤ 1000000000) ∧ (0 ≤ (l.getD i dS).size ∧ (l.getD i dS).size ≤ 100000) :=
  badS_ok (smpEl_zero ((smpF_zero h).2.1 i hi)).1
def endA (s : Int) (l : List (Int × Int)) : Int := endI s l l.length
theorem endI_app (s : Int) (l r : List (Int × Int)) : ∀ k, k ≤ l.length → endI s (l ++ r) k = endI s l k
  | 0, _ => rfl
  | k + 1, hk => by
    rw [endI, endI, endI_app s l r k (by omega), List.getD_eq_getElem?_getD, List.getElem?_append_left (by omega), ← List.getD_eq_getElem?_getD]
theorem endA_snoc (s : Int) (l : List (Int × Int)) (x : Int × Int) : endA s (l ++ [x]) = endA s l + x.1 * x.2 := by
  unfold endA
  rw [List.length_append]
  show endI s (l ++ [x]) (l.length + 1) = _
  rw [endI, endI_app s l [x] l.length (Nat.le_refl _)]
  have e : (l ++ [x]).getD l.length (0, 0) = x := by rw [List.getD_eq_getElem?_getD, List.getElem?_append_right (Nat.le_refl _)]; simp
  rw [e]
theorem endA_add (s : Int) (l : List (Int × Int)) (x : Int) : endA s (addR l x) = endA s l + x := by
  by_cases hc : 0 < l.length ∧ (l.getD (l.length - 1) (0, 0)).2 = x
  · rw [addR_in hc, endA_snoc]
    have h1 := last_split hc.1
    have e : endA s l = endA s (l.take (l.length - 1)) + (l.getD (l.length - 1) (0, 0)).1 * x := by
      conv => lhs; rw [h1]
      rw [endA_snoc, hc.2]
    rw [e]
    show endA s (l.take (l.length - 1)) + ((l.getD (l.length - 1) (0, 0)).1 + 1) * x = _
    rw [Int.add_mul, Int.one_mul]; omega
  · rw [addR_app hc, endA_snoc]
    show endA s l + 1 * x = _
    rw [Int.one_mul]
theorem rowK_end {l : List Smp} (h : smpF l = 0) (s : Int) (hs : 0 < l.length → s = (l.getD 0 dS).time) : ∀ k, k ≤ l.length → endA s (rowK Smp.step l k) = if k = 0 then s else (l.getD (k - 1) dS).time + (l.getD (k - 1) dS).step
  | 0, _ => rfl
  | k + 1, hk => by
    have ih := rowK_end h s hs k (by omega)
    have e : (if k + 1 = 0 then s else (l.getD (k + 1 - 1) dS).time + (l.getD (k + 1 - 1) dS).step) = (l.getD k dS).time + (l.getD k dS).step := by rw [if_neg (by omega), Nat.add_sub_cancel]
    rw [e, rowK, endA_add, ih]
    rcases Nat.eq_zero_or_pos k with h0 | h0
    · subst h0; rw [if_pos rfl, hs (by omega)]
    · have h1 : ¬ k = 0 := by omega
      rw [if_neg h1, (smpEl_zero ((smpF_zero h).2.1 k (by omega))).2 h0]
theorem cmpT_sizes {l : List Smp} (h : smpF l = 0) {s : List Int} (hs : s = if oneK l l.length = true then (szK l l.length).take 1 else szK l l.length) : ¬ szBad (l.length : Int) s.length ∧ firstF (szEl s) s.length = 0 ∧ ∀ i, i < l.length → s.getD (min i (s.length - 1)) 0 = (l.getD i dS).size := by
  have hl := szK_len l l.length
  have hat := fun i hi => szK_at l (i := i) l.length hi
  have hone := oneK_iff l l.length
  have hel : ∀ (s' : List Int), (∀ i, i < s'.length → ∃ j, j < l.length ∧ s'.getD i 0 = (l.getD j dS).size) → firstF (szEl s') s'.length = 0 := fun s' hh => firstF_zero (fun i hi => by
    obtain ⟨j, hj, e⟩ := hh i hi
    have := (smp_bd h hj).2.2.2
    unfold szEl; rw [if_neg (by rw [e]; omega)])
  by_cases ho : oneK l l.length = true
  · rw [if_pos ho] at hs
    rcases Nat.eq_zero_or_pos l.length with h0 | h0
    · have e : s = [] := by rw [hs, List.eq_nil_of_length_eq_zero (hl.trans h0)]; rfl
      subst e
      exact ⟨fun hb => hb.1 (by simp [h0]), rfl, fun i hi => absurd hi (by omega)⟩
    · have hsl : s.length = 1 := by rw [hs, List.length_take, hl]; omega
      have hs0 : s.getD 0 0 = (l.getD 0 dS).size := by
        rw [hs, List.getD_eq_getElem?_getD, List.getElem?_take_of_lt (by omega), ← List.getD_eq_getElem?_getD]; exact hat 0 h0
      refine ⟨fun hb => ?_, hel s (fun i hi => ⟨0, h0, by rw [show i = 0 by omega]; exact hs0⟩), fun i hi => ?_⟩
      · rcases hb.2 with h1 | h1
        · omega
        · exact h1 hsl
      · rw [hsl, show min i (1 - 1) = 0 by omega, hs0]
        exact ((hone.1 ho) i hi).symm
  · rw [if_neg ho] at hs
    subst hs
    refine ⟨fun hb => hb.1 (by rw [hl]), hel _ (fun i hi => ⟨i, by omega, hat i (by omega)⟩), fun i hi => ?_⟩
    rw [hl, Nat.min_eq_left (by omega)]
    exact hat i hi
theorem cmpT_keys (l : List Smp) {ks : List Int} (hk : ks = if allK l l.length = true then [] else keyK l l.length) : firstF (kyEl (l.length : Int) ks) ks.length = 0 ∧ ∀ i, i < l.length → (allK l l.length || ks.contains ((i : Int) + 1)) = (l.getD i dS).key := by
  by_cases ha : allK l l.length = true
  · rw [if_pos ha] at hk
    subst hk
    refine ⟨rfl, fun i hi => ?_⟩
    rw [ha, (allK_iff l l.length).1 ha i hi]; rfl
  · rw [if_neg ha] at hk
    subst hk
    refine ⟨firstF_zero (fun i hi => ?_), fun i hi => ?_⟩
    · obtain ⟨h1, h2, h3⟩ := keyK_bd l l.length i hi
      unfold kyEl
      rw [if_neg (by omega), if_neg (fun hc => by have := h3 hc.1; omega)]
    · rw [Bool.not_eq_true] at ha
      rw [ha, Bool.false_or, keyK_has, decide_eq_true hi, Bool.true_and]
theorem cmpT_chunks {l : List Smp} {ch pl : List Int} (h : CmpR l ch pl) (_hl : l.length ≤ 5000) (hc : ch.length ≤ 5000) : chunksF (l.length : Int) (chK ch ch.length) pl = 0 := by
  have hch : firstF (chEl (chK ch ch.length)) (chK ch ch.length).length = 0 := firstF_zero (fun i hi => by
    obtain ⟨a1, a2, a3, a4, j, a5, a6⟩ := chK_get_bd ch ch.length i hi
    have h1 := h.cq j a5
    unfold chEl
    rw [if_neg, if_neg]
    · unfold ordC
      simp only [decide_eq_true_iff]
      rintro (⟨b1, b2⟩ | ⟨b1, b2⟩)
      · exact b2 (a3 b1)
      · have := a4 b1; omega
    · unfold badC
      simp only [Bool.or_eq_true, decide_eq_true_iff]
      rw [a6]; omega)
  have hf : ¬ chForm (chK ch ch.length) pl.length := by
    rintro (⟨b1, b2⟩ | ⟨b1, b2⟩)
    · have := (chK_last ch ch.length (by have := h.len; omega)).1; omega
    · have := (chK_get_bd ch ch.length ((chK ch ch.length).length - 1) (by omega)).2.1
      have := h.len
      omega
  unfold chunksF
  rw [if_neg (by omega), if_neg hf, if_neg, h.ql]
  rw [← allS_sum hch hf, ← h.len, allS_chK ch ch.length (Nat.le_refl _), h.sum]
  exact fun h => h rfl
theorem cmp_right {l : List Smp} {ch pl : List Int} (h : cmpF l ch pl = 0) : tabF (cmpT l ch pl) = 0 := by
  have hp := cmp_parts h
  have hfw := chunks_few h
  have hsm := hp.smp
  have r1 : runsF 0 (rowK Smp.step l l.length) = 0 := rowK_ok hfw.1 (fun i hi => (smp_bd hsm hi).2.1)
  have r2 : runsF (-1000000000) (rowK Smp.shift l l.length) = 0 := rowK_ok hfw.1 (fun i hi => (smp_bd hsm hi).2.2.1)
  have c1 := rowK_cnt r1
  have c2 := rowK_cnt r2
  have hsz := cmpT_sizes hsm (s := (cmpT l ch pl).sizes) rfl
  have hky := cmpT_keys l (ks := (cmpT l ch pl).keys) rfl
  have hst : (cmpT l ch pl).start = if 0 < l.length then (l.getD 0 dS).time else 0 := rfl
  have hend := rowK_end hsm (cmpT l ch pl).start (fun h0 => by rw [hst, if_pos h0]) l.length (Nat.le_refl _)
  have hns : noT (cmpT l ch pl).start = false := by
    rw [hst]
    by_cases h0 : 0 < l.length
    · rw [if_pos h0]
      have := (smp_bd hsm h0).1
      unfold noT; exact decide_eq_false (by omega)
    · rw [if_neg h0]; rfl
  have e1 : cntA (cmpT l ch pl).steps = (l.length : Int) := c1
  have e2 : cntA (cmpT l ch pl).shifts = (l.length : Int) := c2
  have t0 : ¬ 5000 < cntA (cmpT l ch pl).steps := by rw [e1]; omega
  rw [tabF_two hns r1 t0 r2, tabF2_three (by rw [e1, e2]; rintro (hc | hc); exact hc rfl; exact hsz.1 hc) hsz.2.1 (by rw [e1]; exact hky.1)]
  unfold tabF3
  have hcf : chunksF (cntA (cmpT l ch pl).steps) (cmpT l ch pl).chunks (cmpT l ch pl).places = 0 := by rw [e1]; exact cmpT_chunks hp hfw.1 hfw.2.1
  rw [if_neg (by omega), if_neg]
  have he : endI (cmpT l ch pl).start (cmpT l ch pl).steps (cmpT l ch pl).steps.length = endA (cmpT l ch pl).start (rowK Smp.step l l.length) := rfl
  rw [he, hend]
  by_cases h0 : l.length = 0
  · rw [if_pos h0, hns]; simp
  · rw [if_neg h0]
    have := (smpF_zero hsm).2.2 (by omega)
    unfold endS at this
    rw [this]; simp
theorem list_getD {a b : List Smp} (hl : a.length = b.length) (h : ∀ i, i < b.length → a.getD i dS = b.getD i dS) : a = b := by
  apply List.ext_getElem hl
  intro i h1 h2
  have := h i h2
  rw [List.getD_eq_getElem?_getD, List.getElem?_eq_getElem h1, List.getD_eq_getElem?_getD, List.getElem?_eq_getElem h2] at this
  exact this
theorem cmp_exN {l : List Smp} {ch pl : List Int} : exN (cmpT l ch pl) = l.length := by
  show (valsR (rowK Smp.step l l.length)).length = _
  rw [rowK_vals _ _ _ (Nat.le_refl _), mapR_len]
theorem cmp_exS {l : List Smp} {ch pl : List Int} (h : cmpF l ch pl = 0) : exS (cmpT l ch pl) = l := by
  have hp := cmp_parts h
  have hsm := hp.smp
  have hN : exN (cmpT l ch pl) = l.length := cmp_exN
  have hsz := cmpT_sizes hsm (s := (cmpT l ch pl).sizes) rfl
  have hky := cmpT_keys l (ks := (cmpT l ch pl).keys) rfl
  have v1 : valsR (cmpT l ch pl).steps = mapR l.length (fun i => (l.getD i dS).step) := rowK_vals _ _ _ (Nat.le_refl _)
  have v2 : valsR (cmpT l ch pl).shifts = mapR l.length (fun i => (l.getD i dS).shift) := rowK_vals _ _ _ (Nat.le_refl _)
  have tm : ∀ i, i < l.length → exT (cmpT l ch pl) i = (l.getD i dS).time := by
    intro i
    induction i with
    | zero => intro h0; show (cmpT l ch pl).start = _; show (if 0 < l.length then (l.getD 0 dS).time else 0) = _; rw [if_pos h0]
    | succ i ih =>
      intro hi
      rw [exT, ih (by omega), v1, mapR_getD _ _ (by omega)]
      exact ((smpEl_zero ((smpF_zero hsm).2.1 (i + 1) hi)).2 (by omega)).symm
  refine list_getD (by unfold exS; rw [mapR_len, hN]) (fun i hi => ?_)
  rw [exS_at (by rw [hN]; exact hi), tm i hi]
  have k1 : exSt (cmpT l ch pl) i = (l.getD i dS).step := by unfold exSt; rw [v1, mapR_getD _ _ hi]
  have k2 : exSh (cmpT l ch pl) i = (l.getD i dS).shift := by unfold exSh; rw [v2, mapR_getD _ _ hi]
  have k3 : exSz (cmpT l ch pl) i = (l.getD i dS).size := hsz.2.2 i hi
  have k4 : exKy (cmpT l ch pl) (cmpT l ch pl).keys.length i = (l.getD i dS).key := by
    unfold exKy
    rw [List.take_length]
    exact hky.2 i hi
  rw [k1, k2, k3, k4]
theorem pcB_jn {b : List UInt8} {i j k : Nat} (h1 : i ≤ j) (h2 : j ≤ k) : pcB b i j ++ pcB b j k = pcB b i k := by
  unfold pcB
  have e : b.drop j = (b.drop i).drop (j - i) := by rw [List.drop_drop]; congr 1; omega
  rw [e, show k - i = (j - i) + (k - j) by omega, List.take_add]
theorem pcB_lies {b l : List UInt8} {p : Nat} (h : Lies b p l) : pcB b p (p + l.length) = l := by
  unfold pcB; rw [show p + l.length - p = l.length by omega]; exact h.1
theorem pcB_zero (b : List UInt8) (j : Nat) : pcB b 0 j = b.take j := by unfold pcB; simp
section
variable {l : List Smp} {ch : Nat} {pl : List Int}
theorem ckL_len : (ckL l.length ch).length = ckN l.length ch := ckK_len _ _ _
theorem ckL_get {c : Nat} (h : c < ckN l.length ch) : (ckL l.length ch).getD c 0 = ((min ch (l.length - c * ch) : Nat) : Int) := ckK_get h
theorem ckL_sum (hc : 1 ≤ ch) : ∀ k, k ≤ ckN l.length ch → sumI (ckL l.length ch) k = ((min (k * ch) l.length : Nat) : Int)
  | 0, _ => by rw [Nat.zero_mul, Nat.zero_min]; rfl
  | k + 1, hk => by
    have h1 := (ckN_lt (n := l.length) (k := k) hc).1 (by omega)
    rw [sumI, ckL_sum hc k (by omega), ckL_get (by omega), Nat.succ_mul]
    omega
theorem ckN_end (hc : 1 ≤ ch) : l.length ≤ ckN l.length ch * ch := by
  have h1 := (ckN_lt (n := l.length) (k := ckN l.length ch) hc)
  have h2 : ¬ ckN l.length ch * ch < l.length := fun h => by have := h1.2 h; omega
  omega
theorem ck_cmpF (hs : smpF l = 0) (hc : 1 ≤ ch) (hc2 : ch ≤ 1000) (hl : pl.length = ckN l.length ch) (hp : ∀ j, j < pl.length → 0 ≤ pl.getD j 0 ∧ pl.getD j 0 ≤ 1000000) : cmpF l (ckL l.length ch) pl = 0 := by
  refine cmp_of ⟨hs, by rw [ckL_len, hl], fun i hi => ?_, ?_, firstF_zero (fun i hi => ?_)⟩
  · rw [ckL_len] at hi
    have h1 := (ckN_lt (n := l.length) (k := i) hc).1 hi
    rw [ckL_get hi]; omega
  · have h1 := ckN_end (l := l) hc
    rw [ckL_len, ckL_sum hc _ (Nat.le_refl _), Nat.min_eq_right h1]
  · have := hp i hi
    unfold plEl; rw [if_neg (by omega)]
section
variable (hs : smpF l = 0) (hF : cmpF l (ckL l.length ch) pl = 0)
include hs in
theorem ck_size {i : Nat} (hi : i < l.length) : exSz (cmpT l (ckL l.length ch) pl) i = (l.getD i dS).size := (cmpT_sizes hs (s := (cmpT l (ckL l.length ch) pl).sizes) rfl).2.2 i hi
include hs in
theorem ck_szP : ∀ k, k ≤ l.length → szP (cmpT l (ckL l.length ch) pl) k = ((szN (l.take k) : Nat) : Int)
  | 0, _ => by simp [szP, szN]
  | k + 1, hk => by
    have h1 := szOk_of hs k (by omega)
    rw [szP, ck_szP k (by omega), ck_size hs (by omega), szN_take (by omega)]
    omega
include hF in
theorem ck_spC {c : Nat} (hc : 1 ≤ ch) (h : c ≤ ckN l.length ch) : (spC (cmpT l (ckL l.length ch) pl) c).length = min (c * ch) l.length := by
  have h1 := spC_len (tab_right (cmp_right hF)).chunks c
  have h2 : allS (cmpT l (ckL l.length ch) pl).chunks c = sumI (ckL l.length ch) c := allS_chK _ _ (by rw [ckL_len]; exact h)
  rw [h2, ckL_sum hc c h] at h1
  omega
theorem ck_smO {c : Nat} (h : c < ckN l.length ch) : smO (cmpT l (ckL l.length ch) pl).chunks ((c : Int) + 1) = ((min ch (l.length - c * ch) : Nat) : Int) := by
  have h1 : smO (cmpT l (ckL l.length ch) pl).chunks ((c : Int) + 1) = (ckL l.length ch).getD c 0 := chK_smO _ _ _ (by rw [ckL_len]; exact h)
  rw [h1, ckL_get h]
theorem spB_ap2 (b : List UInt8) (x y : List (Int × Int)) : spB b (x ++ y) = spB b x ++ spB b y := by unfold spB; rw [List.flatMap_append]
include hs in
theorem ck_spI (b : List UInt8) (q s : Nat) : ∀ j, s + j ≤ l.length → spB b (spI (cmpT l (ckL l.length ch) pl) (q : Int) s j) = pcB b q (q + (szN (l.take (s + j)) - szN (l.take s)))
  | 0, _ => by
    have : pcB b q (q + (szN (l.take (s + 0)) - szN (l.take s))) = [] := by unfold pcB; simp
    rw [this]; rfl
  | j + 1, hj => by
    have ih := ck_spI b q s j (by omega)
    have h1 := szOk_of hs (s + j) (by omega)
    have h2 := szN_take (l := l) (k := s + j) (by omega)
    have h3 := szN_mono l (j := s) (k := s + j) (by omega)
    rw [spI, spB_ap2, ih, ck_szP hs (s + j) (by omega), ck_szP hs s (by omega), ck_size hs (by omega)]
    rw [show s + (j + 1) = s + j + 1 by omega, h2]
    generalize szN (l.take (s + j)) = B at *
    generalize szN (l.take s) = A at *
    generalize (l.getD (s + j) dS).size = z at *
    have e : spB b [((q : Int) + ((B : Int) - (A : Int)), z)] = pcB b (q + (B - A)) (q + (B + z.toNat - A)) := by
      unfold spB
      simp only [List.flatMap_cons, List.flatMap_nil, List.append_nil]
      rw [show ((q : Int) + ((B : Int) - (A : Int))).toNat = q + (B - A) by omega, show ((q : Int) + ((B : Int) - (A : Int)) + z).toNat = q + (B + z.toNat - A) by omega]
    rw [e]
    exact pcB_jn (by omega) (by omega)
include hs in
theorem ck_spI_in (q s : Nat) : ∀ j, s + j ≤ l.length → ∀ x ∈ spI (cmpT l (ckL l.length ch) pl) (q : Int) s j, (q : Int) ≤ x.1 ∧ 0 ≤ x.2 ∧ x.1 + x.2 ≤ ((q + (szN (l.take (s + j)) - szN (l.take s)) : Nat) : Int)
  | 0, _, x, hx => by cases hx
  | j + 1, hj, x, hx => by
    have h1 := szOk_of hs (s + j) (by omega)
    have h2 := szN_take (l := l) (k := s + j) (by omega)
    have h3 := szN_mono l (j := s) (k := s + j) (by omega)
    rw [show s + (j + 1) = s + j + 1 by omega, h2]
    rw [spI] at hx
    rcases List.mem_append.1 hx with hx | hx
    · have ih := ck_spI_in q s j (by omega) x hx
      omega
    · rw [List.mem_singleton] at hx
      subst hx
      rw [ck_szP hs (s + j) (by omega), ck_szP hs s (by omega), ck_size hs (by omega)]
      dsimp only
      omega
end
structure ChLie (b X : List UInt8) (l : List Smp) (ch : Nat) (pl : List Int) (a e : Nat) : Prop where
  len : pl.length = ckN l.length ch
  size : X.length = szN l
  few : e ≤ 1000000
  at_ : ∀ j, j < ckN l.length ch → ∃ q : Nat, pl.getD j 0 = (q : Int) ∧ a ≤ q ∧ q + (szN (l.take (min (j * ch + ch) l.length)) - szN (l.take (j * ch))) ≤ e ∧ Lies b q (pcB X (szN (l.take (j * ch))) (szN (l.take (min (j * ch + ch) l.length))))
variable {b X : List UInt8} {a e : Nat}
theorem ChLie.cmpF (h : ChLie b X l ch pl a e) (hs : smpF l = 0) (hc : 1 ≤ ch) (hc2 : ch ≤ 1000) : cmpF l (ckL l.length ch) pl = 0 :=
  ck_cmpF hs hc hc2 h.len (fun j hj => by
    obtain ⟨q, h1, h2, h3, _⟩ := h.at_ j (by have := h.len; omega)
    have := h.few
    rw [h1]; omega)
theorem ch_part {c : Nat} (hc : 1 ≤ ch) (h : c < ckN l.length ch) : c * ch < l.length ∧ c * ch + min ch (l.length - c * ch) = min (c * ch + ch) l.length := by
  have h1 := (ckN_lt (n := l.length) (k := c) hc).1 h
  omega
theorem ChLie.bytes (h : ChLie b X l ch pl a e) (hs : smpF l = 0) (hc : 1 ≤ ch) (hc2 : ch ≤ 1000) : ∀ c, c ≤ ckN l.length ch → spB b (spC (cmpT l (ckL l.length ch) pl) c) = X.take (szN (l.take (min (c * ch) l.length)))
  | 0, _ => by simp [spC, spB, szN]
  | c + 1, hk => by
    have hF := h.cmpF hs hc hc2
    have ih := h.bytes hs hc hc2 c (by omega)
    obtain ⟨h1, h2⟩ := ch_part (l := l) hc (show c < ckN l.length ch by omega)
    have h3 := ck_spC (pl := pl) hF hc (show c ≤ ckN l.length ch by omega)
    rw [Nat.min_eq_left (by omega)] at h3 ih
    obtain ⟨q, g1, _, _, g4⟩ := h.at_ c (by omega)
    have hz := h.size
    have m1 := szN_mono l (j := c * ch) (k := min (c * ch + ch) l.length) (by omega)
    have m2 := szN_le l (min (c * ch + ch) l.length)
    have hl := pcB_len (b := X) m1 (by omega)
    have hp : (cmpT l (ckL l.length ch) pl).places.getD c 0 = (q : Int) := g1
    rw [spC, spB_ap2, ih, hp, h3, ck_smO (by omega), Int.toNat_natCast, ck_spI hs b q (c * ch) _ (by omega), h2]
    have g5 := pcB_lies g4
    rw [hl] at g5
    rw [g5, Nat.succ_mul, ← pcB_zero, ← pcB_zero]
    exact pcB_jn (Nat.zero_le _) m1
theorem ChLie.all (h : ChLie b X l ch pl a e) (hs : smpF l = 0) (hc : 1 ≤ ch) (hc2 : ch ≤ 1000) : spB b (spS (cmpT l (ckL l.length ch) pl)) = X := by
  have h1 : (cmpT l (ckL l.length ch) pl).places.length = ckN l.length ch := h.len
  unfold spS
  rw [h1, h.bytes hs hc hc2 _ (Nat.le_refl _), Nat.min_eq_right (ckN_end hc), List.take_length, ← h.size, List.take_length]
theorem ChLie.inC (h : ChLie b X l ch pl a e) (hs : smpF l = 0) (hc : 1 ≤ ch) (hc2 : ch ≤ 1000) : ∀ c, c ≤ ckN l.length ch → ∀ x ∈ spC (cmpT l (ckL l.length ch) pl) c, (a : Int) ≤ x.1 ∧ x.1 + x.2 ≤ (e : Int)
  | 0, _, x, hx => by cases hx
  | c + 1, hk, x, hx => by
    have hF := h.cmpF hs hc hc2
    obtain ⟨h1, h2⟩ := ch_part (l := l) hc (show c < ckN l.length ch by omega)
    have h3 := ck_spC (pl := pl) hF hc (show c ≤ ckN l.length ch by omega)
    rw [Nat.min_eq_left (by omega)] at h3
    obtain ⟨q, g1, g2, g3, _⟩ := h.at_ c (by omega)
    have hp : (cmpT l (ckL l.length ch) pl).places.getD c 0 = (q : Int) := g1
    rw [spC] at hx
    rcases List.mem_append.1 hx with hx | hx
    · exact h.inC hs hc hc2 c (by omega) x hx
    · rw [hp, h3, ck_smO (by omega), Int.toNat_natCast] at hx
      have := ck_spI_in hs q (c * ch) _ (by omega) x hx
      rw [h2] at this
      omega
theorem ChLie.in_ (h : ChLie b X l ch pl a e) (hs : smpF l = 0) (hc : 1 ≤ ch) (hc2 : ch ≤ 1000) : ∀ x ∈ spS (cmpT l (ckL l.length ch) pl), (a : Int) ≤ x.1 ∧ x.1 + x.2 ≤ (e : Int) := by
  have h1 : (cmpT l (ckL l.length ch) pl).places.length = ckN l.length ch := h.len
  unfold spS
  rw [h1]
  exact h.inC hs hc hc2 _ (Nat.le_refl _)
theorem ChLie.expF (h : ChLie b X l ch pl a e) (hs : smpF l = 0) (hc : 1 ≤ ch) (hc2 : ch ≤ 1000) : expF (cmpT l (ckL l.length ch) pl) = 0 := by
  unfold Go.Proofs.Ytlonhkjplijlcaa.expF
  rw [if_neg (by have := cmp_right (h.cmpF hs hc hc2); omega), if_neg]
  intro hb
  obtain ⟨x, hx, hx2⟩ := List.any_eq_true.1 hb
  have h1 := h.in_ hs hc hc2 x hx
  have h2 := h.few
  unfold bigS at hx2
  rw [decide_eq_true_eq] at hx2
  omega
end
end Go.Proofs.Ytlonhkjplijlcaa
namespace Go.Proofs.Ytlonhkjplijlcaa
open Go.RowKit
theorem gen_hk {P : Act → World → Prop} {S : World → Prop} {c : Bool} {K : Act → World → Prop} {a : Act} {w : World} (hK : Shut (∀ a' w', (c = false → S w') → P a' w' → K a' w')) (h : ∀ W, W = w → (c = false → S W) ∧ P a W) : K a w :=
  hK.out _ _ (h w rfl).1 (h w rfl).2
def nmS (l : List TrkT) : Prop := ∀ i, i < l.length → (l.getD i default).name.length ≤ 40
structure FbM (w0 W : World) (xb : Nat) (v : Value) (hs : List BoxH) (l : List BoxT) : Prop where
  row : RwO W w0.heap.size xb v hs l
  cell : Blk W xb 47 #[.string ⟨kFilm.toArray⟩, .int .i64 0, .slice none 0 0, v]
  lo : w0.heap.size ≤ xb
  ext : Ext w0 W
theorem FbM.extW {w0 W W' : World} {xb : Nat} {v : Value} {hs : List BoxH} {l : List BoxT} (h : FbM w0 W xb v hs l) (he : Ext W W') : FbM w0 W' xb v hs l := ⟨h.row.ext he, h.cell.ext he, h.lo, Ext.trans h.ext he⟩
theorem FbM.mid {w0 W Wa W' : World} {xb : Nat} {v : Value} {hs : List BoxH} {l : List BoxT} (h : FbM w0 W xb v hs l) (he : Ext W Wa) (hg : Wa.grownBy W' v.ownBlock) : Blk W' xb 47 #[.string ⟨kFilm.toArray⟩, .int .i64 0, .slice none 0 0, v] :=
  (hg.block xb (h.cell.ext he).lt (fun e => h.row.ne e.symm)).trans (h.cell.ext he)
theorem FbM.snoc {w0 W Wa W' : World} {xb : Nat} {v v' : Value} {hs : List BoxH} {l : List BoxT} {y : BoxH} {x : BoxT} (h : FbM w0 W xb v hs l) (he : Ext W Wa) (hy : BxOk Wa (G1 W.heap.size Wa) y x)
    (hw : Own W' w0.heap.size 47 4 eBx v' (hs ++ [y])) (hg : Wa.grownBy W' v.ownBlock) (hr : v'.ownBlock = v.ownBlock ∨ v'.ownBlock = some Wa.heap.size) : FbM w0 (W'.setCell ⟨xb, 3, none⟩ v') xb v' (hs ++ [y]) (l ++ [x]) := by
  have h1 := h.row.snoc h.ext.size h.cell.lt he hy hw hg hr
  have hT : Tw W' (W'.setCell ⟨xb, 3, none⟩ v') xb none := Tw.set_ _ _ _ _ _
  have e1 : Ext w0 W' := h.row.own.ext he |>.below (Ext.trans h.ext he) hg (Nat.le_refl _)
  exact ⟨h1.set_, (h.mid he hg).set_ 3 v', h.lo, tw_ext' e1 hT h.lo⟩
def FbG (w : World) (l : List BoxT) (e : Ending) (w' : World) : Prop := ∃ kA kn kc, e = .returned (.agg #[.string ⟨kFilm.toArray⟩, .int .i64 0, .slice none 0 0, .slice kA kn kc]) ∧ BxsAt w' (G1 w.heap.size w') kA kn kc l ∧ Ext w w'
theorem BtP.low {W : World} {B B' : Nat} {A : Option Addr} {n c : Nat} {l : List UInt8} (h : BtP W B A n c l) (hb : B' ≤ B) : BtP W B' A n c l := ⟨h.at_, fun a ha => ⟨Nat.le_trans hb (h.in_ a ha).1, (h.in_ a ha).2⟩⟩
theorem cmp_fw {W : World} {sA : Option Addr} {sn sc : Nat} {hA : Option Addr} {hn hc : Nat} {zA : Option Addr} {zn zc : Nat} {kA : Option Addr} {kn kc : Nat} {cA : Option Addr} {cn cc : Nat} {pA : Option Addr} {pn pc : Nat} {l : List Smp} {ch pl : List Int}
    (h : TabAt W sA sn sc hA hn hc zA zn zc kA kn kc cA cn cc pA pn pc (cmpT l ch pl)) (hl : l.length ≤ 5000) (hch : ch.length ≤ 5000) (hp : pl.length ≤ 5000) : TabFw sn hn zn kn cn pn := by
  have h1 := h.steps.len
  have h2 := h.shifts.len
  have h3 := h.sizes.len
  have h4 := h.keys.len
  have h5 := h.chunks.len
  have h6 := h.places.len
  unfold cmpT at h1 h2 h3 h4 h5 h6
  simp only at h1 h2 h3 h4 h5 h6
  have a1 := (rowK_bd Smp.step l l.length).1
  have a2 := (rowK_bd Smp.shift l l.length).1
  have a3 := szK_len l l.length
  have a4 := keyK_len l l.length
  have a5 := chK_len ch ch.length
  refine ⟨by omega, by omega, ?_, ?_, by omega, by omega⟩
  · rw [← h3]; split
    · rw [List.length_take]; omega
    · omega
  · rw [← h4]; split
    · simp
    · omega
def FbS (xb tb gp i : Nat) (v u0 u1 u2 u3 u4 : Value) (V : World) : Prop := V.cell? ⟨xb, 3, none⟩ = some v ∧ V.cell? ⟨tb, 0, none⟩ = some u0 ∧ V.cell? ⟨tb, 1, none⟩ = some u1 ∧ V.cell? ⟨tb, 2, none⟩ = some u2 ∧ V.cell? ⟨tb, 3, none⟩ = some u3 ∧ V.cell? ⟨gp, i, none⟩ = some u4
theorem FbS.ext {xb tb gp i : Nat} {v u0 u1 u2 u3 u4 : Value} {W V : World} (h : FbS xb tb gp i v u0 u1 u2 u3 u4 W) (he : Ext W V) : FbS xb tb gp i v u0 u1 u2 u3 u4 V := ⟨he.cell h.1, he.cell h.2.1, he.cell h.2.2.1, he.cell h.2.2.2.1, he.cell h.2.2.2.2.1, he.cell h.2.2.2.2.2⟩
theorem FbS.grow {xb tb gp i : Nat} {v u0 u1 u2 u3 u4 : Value} {W V : World} {row : Option Nat} (h : FbS xb tb gp i v u0 u1 u2 u3 u4 W) (hg : W.grownBy V row) (h1 : row ≠ some xb) (h2 : row ≠ some tb) (h3 : row ≠ some gp) : FbS xb tb gp i v u0 u1 u2 u3 u4 V := by
  have key : ∀ (q k : Nat) (u : Value), row ≠ some q → W.cell? ⟨q, k, none⟩ = some u → V.cell? ⟨q, k, none⟩ = some u := fun q k u hq hc => cell_heap (hg.block q (by have := cell_lt hc; simpa using this) (fun e => hq e.symm)) hc
  exact ⟨key _ _ _ h1 h.1, key _ _ _ h2 h.2.1, key _ _ _ h2 h.2.2.1, key _ _ _ h2 h.2.2.2.1, key _ _ _ h2 h.2.2.2.2.1, key _ _ _ h3 h.2.2.2.2.2⟩
theorem four_bxs {W : World} {B : Nat} {A1 A2 A3 A4 : Option Addr} {n1 c1 n2 c2 n3 c3 n4 c4 : Nat} {d1 d2 d3 d4 : List UInt8} (hb : B ≤ W.heap.size) (h1 : BtP W B A1 n1 c1 d1) (h2 : BtP W B A2 n2 c2 d2) (h3 : BtP W B A3 n3 c3 d3) (h4 : BtP W B A4 n4 c4 d4) :
    BxOk (W.alloc (.cells #[.string ⟨#[110, 97, 109, 101]⟩, .int .i64 0, .slice A1 n1 c1, .slice none 0 0, .string ⟨#[114, 97, 116, 101]⟩, .int .i64 0, .slice A2 n2 c2, .slice none 0 0, .string ⟨#[101, 100, 105, 116]⟩, .int .i64 0, .slice A3 n3 c3, .slice none 0 0, .string ⟨#[116, 97, 98, 108]⟩, .int .i64 0, .slice A4 n4 c4, .slice none 0 0] 47))
      (G1 B (W.alloc (.cells #[.string ⟨#[110, 97, 109, 101]⟩, .int .i64 0, .slice A1 n1 c1, .slice none 0 0, .string ⟨#[114, 97, 116, 101]⟩, .int .i64 0, .slice A2 n2 c2, .slice none 0 0, .string ⟨#[101, 100, 105, 116]⟩, .int .i64 0, .slice A3 n3 c3, .slice none 0 0, .string ⟨#[116, 97, 98, 108]⟩, .int .i64 0, .slice A4 n4 c4, .slice none 0 0] 47)))
      ⟨kTrck, 0, none, 0, 0, some ⟨W.heap.size, 0, none⟩, 4, 4⟩ (.mk kTrck 0 [] [leafB kName d1, leafB kRate d2, leafB kEdit d3, leafB kTabl d4]) := by
  have h9 := lit_bxs (W := W) (B := B) #[.string ⟨#[110, 97, 109, 101]⟩, .int .i64 0, .slice A1 n1 c1, .slice none 0 0, .string ⟨#[114, 97, 116, 101]⟩, .int .i64 0, .slice A2 n2 c2, .slice none 0 0, .string ⟨#[101, 100, 105, 116]⟩, .int .i64 0, .slice A3 n3 c3, .slice none 0 0, .string ⟨#[116, 97, 98, 108]⟩, .int .i64 0, .slice A4 n4 c4, .slice none 0 0] [hdB kName A1 n1 c1, hdB kRate A2 n2 c2, hdB kEdit A3 n3 c3, hdB kTabl A4 n4 c4] [leafB kName d1, leafB kRate d2, leafB kEdit d3, leafB kTabl d4] rfl hb rfl (by simp) (fun i y x hy hx => by
    match i, hy, hx with
    | 0, hy, hx => simp at hy hx; subst hy hx; exact h1.leaf
    | 1, hy, hx => simp at hy hx; subst hy hx; exact h2.leaf
    | 2, hy, hx => simp at hy hx; subst hy hx; exact h3.leaf
    | 3, hy, hx => simp at hy hx; subst hy hx; exact h4.leaf
    | i + 4, hy, hx => simp at hy)
  exact ⟨⟨rfl, rfl, At.nil _ _ _, fun a ha => by cases ha⟩, h9⟩
structure EdM (w5 W : World) (v : Value) (l : List UInt8) : Prop where
  own : Own W w5.heap.size 5 1 e8 v l
  ext : Ext w5 W
end Go.Proofs.Ytlonhkjplijlcaa
namespace Go.Proofs.Ytlonhkjplijlcaa
mutual
def sizeT : BoxT → Nat
  | .mk _ f d l => 8 + d.length + (if f = 1 then 8 else 0) + sizeL l
def sizeL : List BoxT → Nat
  | [] => 0
  | x :: r => sizeT x + sizeL r
end
def firstN (f : Int) (n : Nat) : Nat := if f = 1 then 1 else if f = 2 then 0 else n
def headB (k : List UInt8) (f : Int) (n : Nat) : List UInt8 := beN 4 (firstN f n) ++ k ++ (if f = 1 then beN 8 n else [])
mutual
def bytT : BoxT → List UInt8
  | .mk k f d l => headB k f (8 + d.length + (if f = 1 then 8 else 0) + sizeL l) ++ d ++ bytL l
def bytL : List BoxT → List UInt8
  | [] => []
  | x :: r => bytT x ++ bytL r
end
def elB (k : List UInt8) (f : Int) (d : List UInt8) (n : Nat) (last : Bool) : Int :=
  if isKindB k = false then 5 else if f < 0 ∨ 2 < f then 4 else if (hasKidsB k = true ∧ 0 < d.length) ∨ (hasKidsB k = false ∧ 0 < n) then 3 else if f = 2 ∧ last = false then 8 else 0
def fauL : List BoxT → Nat → Nat → Int × Nat
  | [], _, c => (0, c)
  | .mk k f d l :: r, dep, c =>
    if 2000 < c + 1 ∨ 8 ≤ dep then (2, c + 1)
    else if elB k f d l.length r.isEmpty ≠ 0 then (elB k f d l.length r.isEmpty, c + 1)
    else if (fauL l (dep + 1) (c + 1)).1 ≠ 0 then fauL l (dep + 1) (c + 1)
    else fauL r dep (fauL l (dep + 1) (c + 1)).2
theorem fauL_ok {k : List UInt8} {f : Int} {d : List UInt8} {l r : List BoxT} {dep c m : Nat} (h : fauL (.mk k f d l :: r) dep c = (0, m)) :
    ¬ (2000 < c + 1 ∨ 8 ≤ dep) ∧ elB k f d l.length r.isEmpty = 0 ∧ ∃ m', fauL l (dep + 1) (c + 1) = (0, m') ∧ fauL r dep m' = (0, m) := by
  rw [fauL] at h
  by_cases h1 : 2000 < c + 1 ∨ 8 ≤ dep
  · rw [if_pos h1] at h; injection h with h2; omega
  rw [if_neg h1] at h
  by_cases h2 : elB k f d l.length r.isEmpty ≠ 0
  · rw [if_pos h2] at h; injection h with h3; exact absurd h3 h2
  rw [if_neg h2] at h
  by_cases h3 : (fauL l (dep + 1) (c + 1)).1 ≠ 0
  · rw [if_pos h3] at h; rw [h] at h3; exact absurd rfl h3
  rw [if_neg h3] at h
  refine ⟨h1, by omega, (fauL l (dep + 1) (c + 1)).2, ?_, h⟩
  have : (fauL l (dep + 1) (c + 1)).1 = 0 := by omega
  rw [← this]
theorem elB_ok {k : List UInt8} {f : Int} {d : List UInt8} {n : Nat} {last : Bool} (h : elB k f d n last = 0) :
    isKindB k = true ∧ (f = 0 ∨ f = 1 ∨ f = 2) ∧ (hasKidsB k = true → d = []) ∧ (hasKidsB k = false → n = 0) ∧ (f = 2 → last = true) := by
  unfold elB at h
  cases hk : isKindB k with
  | false => rw [hk, if_pos rfl] at h; omega
  | true =>
    rw [hk, if_neg (by simp)] at h
    by_cases h1 : f < 0 ∨ 2 < f
    · rw [if_pos h1] at h; omega
    rw [if_neg h1] at h
    by_cases h2 : (hasKidsB k = true ∧ 0 < d.length) ∨ (hasKidsB k = false ∧ 0 < n)
    · rw [if_pos h2] at h; omega
    rw [if_neg h2] at h
    by_cases h3 : f = 2 ∧ last = false
    · rw [if_pos h3] at h; omega
    refine ⟨rfl, by omega, fun hh => ?_, fun hh => ?_, fun hf => ?_⟩
    · apply List.eq_nil_of_length_eq_zero
      rcases Nat.eq_zero_or_pos d.length with h4 | h4
      · exact h4
      · exact absurd (.inl ⟨hh, h4⟩) h2
    · rcases Nat.eq_zero_or_pos n with h4 | h4
      · exact h4
      · exact absurd (.inr ⟨hh, h4⟩) h2
    · cases last with
      | true => rfl
      | false => exact absurd ⟨hf, rfl⟩ h3
theorem kind_len {k : List UInt8} (h : isKindB k = true) : k.length = 4 := by
  unfold isKindB at h
  simp only [Bool.and_eq_true, decide_eq_true_iff] at h
  exact h.1
theorem headB_len {k : List UInt8} {f : Int} {n : Nat} (h : k.length = 4) : (headB k f n).length = 8 + (if f = 1 then 8 else 0) := by
  unfold headB
  rw [List.length_append, List.length_append, beN_len, h]
  by_cases hf : f = 1
  · rw [if_pos hf, if_pos hf, beN_len]
  · rw [if_neg hf, if_neg hf]; rfl
theorem bytL_len : ∀ (l : List BoxT) (dep c m : Nat), fauL l dep c = (0, m) → (bytL l).length = sizeL l
  | [], _, _, _, _ => by rw [bytL, sizeL]; rfl
  | .mk k f d l :: r, dep, c, m, h => by
    obtain ⟨_, h2, m', h3, h4⟩ := fauL_ok h
    have hk := kind_len (elB_ok h2).1
    have i1 := bytL_len l _ _ _ h3
    have i2 := bytL_len r _ _ _ h4
    rw [bytL, bytT, sizeL, sizeT, List.length_append, List.length_append, List.length_append, headB_len hk, i1, i2]
    omega
theorem cutB_ln {b : List UInt8} {i j : Nat} (h2 : j ≤ b.length) : (cutB b i j).length = j - i := by
  unfold cutB; rw [List.length_take, List.length_drop]; omega
theorem cutB_join {b : List UInt8} {i j k : Nat} (h1 : i ≤ j) (h2 : j ≤ k) : cutB b i j ++ cutB b j k = cutB b i k := by
  unfold cutB
  have e : b.drop j = (b.drop i).drop (j - i) := by rw [List.drop_drop]; congr 1; omega
  rw [e, show k - i = (j - i) + (k - j) by omega, List.take_add]
theorem cutB_split {b p q : List UInt8} {i k : Nat} (hi : i ≤ k) (hk : k ≤ b.length) (h : cutB b i k = p ++ q) : i + p.length ≤ k ∧ cutB b i (i + p.length) = p ∧ cutB b (i + p.length) k = q := by
  have hl := congrArg List.length h
  rw [cutB_ln hk, List.length_append] at hl
  have h1 : i + p.length ≤ k := by omega
  have e := cutB_join (b := b) (i := i) (j := i + p.length) (k := k) (by omega) h1
  rw [h] at e
  have h2 : (cutB b i (i + p.length)).length = p.length := by rw [cutB_ln (by omega)]; omega
  exact ⟨h1, (List.append_inj e h2).1, (List.append_inj e h2).2⟩
theorem headP_of {b k : List UInt8} {f : Int} {n i tt_ : Nat} (hk : isKindB k = true) (hf : f = 0 ∨ f = 1 ∨ f = 2) (hn : n < 4294967296) (hto : tt_ ≤ b.length) (hi : i + n ≤ tt_) (h8 : 8 + (if f = 1 then 8 else 0) ≤ n) (hopen : f = 2 → i + n = tt_)
    (hh : cutB b i (i + (8 + (if f = 1 then 8 else 0))) = headB k f n) : headP b i tt_ = some (k, f, i + (8 + (if f = 1 then 8 else 0)), i + n) := by
  have hkl := kind_len hk
  unfold headB at hh
  rw [List.append_assoc] at hh
  obtain ⟨g1, g2, g3⟩ := cutB_split (by omega) (by omega) hh
  rw [beN_len] at g1 g2 g3
  obtain ⟨g4, g5, g6⟩ := cutB_split (by omega) (by omega) g3
  rw [hkl] at g4 g5 g6
  rw [show i + 4 + 4 = i + 8 by omega] at g5 g6
  unfold headP
  have h1 : ¬ tt_ - i < 8 := by omega
  rw [if_neg h1, g2, g5]
  rcases hf with rfl | rfl | rfl
  · have e : numB (beN 4 (firstN 0 n)) = n := by
      rw [show firstN 0 n = n from rfl]; exact beN_numB 4 n (by simpa using hn)
    simp only [show ¬ ((0 : Int) = 1) by omega, if_false, Nat.add_zero] at h8 ⊢
    rw [e, if_neg (by omega), if_neg (by omega)]
    unfold headF
    rw [if_pos ⟨hk, by omega, by omega⟩]
  · have e : numB (beN 4 (firstN 1 n)) = 1 := by
      rw [show firstN 1 n = 1 from rfl]; exact beN_numB 4 1 (by omega)
    simp only [if_true] at h8 hh g6 ⊢
    rw [e, if_pos rfl, if_neg (by omega)]
    rw [show i + (8 + 8) = i + 16 by omega] at g6 ⊢
    rw [g6, beN_numB 8 n (by omega)]
    unfold headF
    rw [if_pos ⟨hk, by omega, by omega⟩]
  · have e : numB (beN 4 (firstN 2 n)) = 0 := by
      rw [show firstN 2 n = 0 from rfl]; exact beN_numB 4 0 (by omega)
    simp only [show ¬ ((2 : Int) = 1) by omega, if_false, Nat.add_zero] at h8 ⊢
    have ho := hopen rfl
    rw [e, if_neg (by omega), if_pos rfl]
    unfold headF
    rw [if_pos ⟨hk, by omega, by omega⟩]
    rw [show i + (tt_ - i) = i + n by omega]
end Go.Proofs.Ytlonhkjplijlcaa
