/- Plain law: what is made of parts is taken back; what is not touched stays. Conditions as stated. -/
import Derived.Test.YtifmgngmkajahaaCodE
import Derived.Test.YtifmgngmkajahaaSchemesE
import Derived.Test.YtifmgngmkajahaaPlain
namespace Go.Proofs.Ytifmgngmkajahaa
open Go.RowKit Kc

/-- The result, part by part. -/
def codD (m : Int) (c s : Nat) (back : Bool) (k v : List UInt8) : List (Int × Int) → Nat → Nat → List UInt8 → List UInt8
  | [], _, lo, b => b.drop lo
  | p :: r, t, lo, b => (b.drop lo).take (p.1.toNat - lo) ++ (codG m c s back k v t ((b.drop p.1.toNat).take (p.2.toNat - p.1.toNat)) ++ codD m c s back k v r (t + (p.2.toNat - p.1.toNat)) p.2.toNat b)
theorem codK_codD (m : Int) (c s : Nat) (back : Bool) (k v b : List UInt8) : ∀ (P : List (Int × Int)) (out : List UInt8) (t : Nat) (lo : Nat), chainS (lo : Int) P → (∀ p ∈ P, p.2 ≤ (b.length : Int)) → out.length = b.length → lo ≤ b.length → out.drop lo = b.drop lo →
    (P.foldl (codS m c s back k v b) (out, t)).1 = out.take lo ++ codD m c s back k v P t lo b
  | [], out, t, lo, _, _, _, _, h => by
    rw [codD, ← h, List.take_append_drop]; rfl
  | p :: r, out, t, lo, ⟨c1, c2, c3⟩, hm, hl, hlo, h => by
    have hp := hm p (by simp)
    have hX : (codG m c s back k v t ((b.drop p.1.toNat).take (p.2.toNat - p.1.toNat))).length = p.2.toNat - p.1.toNat := by
      rw [length_codG, List.length_take, List.length_drop]; omega
    rw [List.foldl_cons, codD]
    have hd : out.drop p.1.toNat = b.drop p.1.toNat := by
      have e : p.1.toNat = lo + (p.1.toNat - lo) := by omega
      rw [e, ← List.drop_drop, h, List.drop_drop]
    have hcs : codS m c s back k v b (out, t) p = (spl out p.1.toNat (codG m c s back k v t ((b.drop p.1.toNat).take (p.2.toNat - p.1.toNat))), t + (p.2.toNat - p.1.toNat)) := rfl
    rw [hcs]
    generalize codG m c s back k v t ((b.drop p.1.toNat).take (p.2.toNat - p.1.toNat)) = X at *
    have t1 := spl_take out p.1.toNat X (by omega)
    have t2 := spl_drop out p.1.toNat X (by omega)
    rw [hX, show p.1.toNat + (p.2.toNat - p.1.toNat) = p.2.toNat by omega] at t1 t2
    have hp2 : ((p.2.toNat : Nat) : Int) = p.2 := by omega
    rw [codK_codD m c s back k v b r (spl out p.1.toNat X) _ p.2.toNat (by rw [hp2]; exact c3) (fun q hq => hm q (List.mem_cons_of_mem _ hq)) (by rw [length_spl _ _ _ (by omega), hl]) (by omega) (by
      rw [t2]
      have e : p.2.toNat = p.1.toNat + (p.2.toNat - p.1.toNat) := by omega
      rw [e, ← List.drop_drop, hd, List.drop_drop]), t1]
    have e2 : out.take p.1.toNat = out.take lo ++ (b.drop lo).take (p.1.toNat - lo) := by
      rw [← h, ← List.take_add, show lo + (p.1.toNat - lo) = p.1.toNat by omega]
    rw [e2, List.append_assoc, List.append_assoc]
theorem xrL_back (x s : List UInt8) : xrL (xrL x s) s = x := by
  apply List.ext_getElem
  · rw [length_xrL, length_xrL]
  · intro i h1 h2
    have hx : i < x.length := h2
    simp only [xrL, List.getElem_map, List.getElem_range, List.getD_eq_getElem?_getD, List.getElem?_map, List.getElem?_range hx, Option.map_some, Option.getD_some, List.getElem?_eq_getElem hx]
    rw [UInt8.xor_assoc, UInt8.xor_self, UInt8.xor_zero]
theorem xor8_twice (a b : List UInt8) (h : a.length = 8) : xor8 (xor8 a b) b = a := by
  match a, h with
  | [a0, a1, a2, a3, a4, a5, a6, a7], _ =>
    simp [xor8, List.range_succ, UInt8.xor_assoc]
theorem gG_back (k : List UInt8) (c e : Nat) : ∀ (n j : Nat) (last l : List UInt8), 8 * n ≤ l.length → gG (stU k) c e n j last (gG (stC k) c e n j last l) = l
  | 0, _, _, _, _ => rfl
  | n + 1, j, last, l, h => by
    rw [gG, gG]
    by_cases hs : selB c e j = true
    · rw [if_pos hs, if_pos hs]
      have hx : (stC k (l.take 8) last).1.length = 8 := rfl
      rw [List.take_append_of_le_length (by omega), List.take_of_length_le (by omega), List.drop_append, List.drop_of_length_le (by omega), hx, Nat.sub_self, List.drop_zero, List.nil_append]
      have e1 : (stU k (stC k (l.take 8) last).1 last).1 = l.take 8 := by
        unfold stU stC
        simp only
        rw [decB_encB k _ (length_xor8 _ _), xor8_twice _ _ (by simp; omega)]
      have e2 : (stU k (stC k (l.take 8) last).1 last).2 = (stC k (l.take 8) last).2 := rfl
      rw [e1, e2, gG_back k c e n _ _ _ (by simp; omega), List.take_append_drop]
    · rw [if_neg hs, if_neg hs]
      have hx : (l.take 8).length = 8 := by rw [List.length_take]; omega
      rw [List.take_append_of_le_length (by omega), List.take_of_length_le (by omega), List.drop_append, List.drop_of_length_le (by omega), hx, Nat.sub_self, List.drop_zero, List.nil_append, gG_back k c e n _ _ _ (by simp; omega), List.take_append_drop]
theorem codG_back (m : Int) (c s : Nat) (k v : List UInt8) (t : Nat) (x : List UInt8) : codG m c s true k v t (codG m c s false k v t x) = x := by
  have hl := length_codG m c s false k v t x
  unfold codG at hl ⊢
  by_cases hm : m = 1
  · rw [if_pos hm, if_pos hm, length_xrL, xrL_back]
  · rw [if_neg hm, if_neg hm]
    rw [if_neg hm] at hl
    rw [hl]
    exact gG_back k c (c + s) _ _ _ _ (by omega)
theorem codD_back (m : Int) (c s : Nat) (k v b : List UInt8) : ∀ (P : List (Int × Int)) (t lo : Nat) (X : List UInt8), chainS (lo : Int) P → (∀ p ∈ P, p.2 ≤ (b.length : Int)) → lo ≤ b.length →
    X.drop lo = codD m c s false k v P t lo b → codD m c s true k v P t lo X = b.drop lo
  | [], t, lo, X, _, _, _, h => h
  | p :: r, t, lo, X, ⟨c1, c2, c3⟩, hm, hlo, h => by
    have hp := hm p (by simp)
    rw [codD] at h ⊢
    have hA : ((b.drop lo).take (p.1.toNat - lo)).length = p.1.toNat - lo := by rw [List.length_take, List.length_drop]; omega
    have hB : ((b.drop p.1.toNat).take (p.2.toNat - p.1.toNat)).length = p.2.toNat - p.1.toNat := by rw [List.length_take, List.length_drop]; omega
    have hC := length_codG m c s false k v t ((b.drop p.1.toNat).take (p.2.toNat - p.1.toNat))
    have hback := codG_back m c s k v t ((b.drop p.1.toNat).take (p.2.toNat - p.1.toNat))
    rw [hB] at hC
    generalize codG m c s false k v t ((b.drop p.1.toNat).take (p.2.toNat - p.1.toNat)) = G at *
    have x1 : (X.drop lo).take (p.1.toNat - lo) = (b.drop lo).take (p.1.toNat - lo) := by
      rw [h, List.take_append_of_le_length (by omega), List.take_of_length_le (by omega)]
    have x2 : X.drop p.1.toNat = G ++ codD m c s false k v r (t + (p.2.toNat - p.1.toNat)) p.2.toNat b := by
      have e : p.1.toNat = lo + (p.1.toNat - lo) := by omega
      rw [e, ← List.drop_drop, h, List.drop_append, List.drop_of_length_le (by omega), hA, Nat.sub_self, List.drop_zero, List.nil_append, ← e]
    have x3 : (X.drop p.1.toNat).take (p.2.toNat - p.1.toNat) = G := by
      rw [x2, List.take_append_of_le_length (by omega), List.take_of_length_le (by omega)]
    have x4 : X.drop p.2.toNat = codD m c s false k v r (t + (p.2.toNat - p.1.toNat)) p.2.toNat b := by
      have e : p.2.toNat = p.1.toNat + (p.2.toNat - p.1.toNat) := by omega
      conv => lhs; rw [e]
      rw [← List.drop_drop, x2, List.drop_append, List.drop_of_length_le (by omega), hC, Nat.sub_self, List.drop_zero, List.nil_append]
    have hp2 : ((p.2.toNat : Nat) : Int) = p.2 := by omega
    rw [x1, x3, hback, codD_back m c s k v b r _ p.2.toNat X (by rw [hp2]; exact c3) (fun q hq => hm q (List.mem_cons_of_mem _ hq)) (by omega) x4]
    have e1 : b.drop p.2.toNat = (b.drop p.1.toNat).drop (p.2.toNat - p.1.toNat) := by rw [List.drop_drop]; congr 1; omega
    rw [e1, List.take_append_drop]
    have e2 : b.drop p.1.toNat = (b.drop lo).drop (p.1.toNat - lo) := by rw [List.drop_drop]; congr 1; omega
    rw [e2, List.take_append_drop]
/-- Open takes Protect back. -/
theorem codK_back (m : Int) (c s : Nat) (k v b : List UInt8) {P : List (Int × Int)} (hP : chainS 0 P) (hm : ∀ p ∈ P, p.2 ≤ (b.length : Int)) :
    (codK m c s true k v (codK m c s false k v b P).1 P).1 = b := by
  have h1 := codK_codD m c s false k v b P b 0 0 hP hm rfl (Nat.zero_le _) rfl
  have hl := codK_len (m := m) (c := c) (s := s) (back := false) (k := k) (v := v) (b := b) hP hm
  have h0 : (codK m c s false k v b P).1 = codD m c s false k v P 0 0 b := by
    unfold codK; rw [h1]; simp
  have h2 := codK_codD m c s true k v (codK m c s false k v b P).1 P (codK m c s false k v b P).1 0 0 hP (by rw [hl]; exact hm) rfl (Nat.zero_le _) rfl
  unfold codK at h2 ⊢
  rw [h2]
  simp only [List.take_zero, List.nil_append]
  have h3 := codD_back m c s k v b P 0 0 (codK m c s false k v b P).1 hP hm (Nat.zero_le _) (by rw [h0, List.drop_zero])
  unfold codK at h3
  rw [h3, List.drop_zero]
/-- What is not selected stays. -/
theorem gG_skip {f : List UInt8 → List UInt8 → List UInt8 × List UInt8} (hf : ∀ x y, (f x y).1.length = 8) {c e : Nat} : ∀ (n j q : Nat) (last l : List UInt8), 8 * n ≤ l.length → (q / 8 < n → selB c e (j + q / 8) = false) → (gG f c e n j last l)[q]? = l[q]?
  | 0, _, _, _, _, _, _ => rfl
  | n + 1, j, q, last, l, h, hq => by
    rw [gG]
    by_cases h8 : q < 8
    · have h0 : q / 8 = 0 := by omega
      have := hq (by omega)
      rw [h0, Nat.add_zero] at this
      rw [if_neg (by rw [this]; decide), List.getElem?_append_left (by rw [List.length_take]; omega), List.getElem?_take, if_pos h8]
    · have hd : q / 8 = (q - 8) / 8 + 1 := by omega
      have hq' : (q - 8) / 8 < n → selB c e (j + 1 + (q - 8) / 8) = false := fun hh => by
        have := hq (by omega)
        rw [hd] at this
        rw [show j + 1 + (q - 8) / 8 = j + ((q - 8) / 8 + 1) by omega]; exact this
      split
      · rw [List.getElem?_append_right (by rw [hf]; omega), hf, gG_skip hf n (j + 1) (q - 8) _ _ (by simp; omega) hq', List.getElem?_drop, show 8 + (q - 8) = q by omega]
      · rw [List.getElem?_append_right (by rw [List.length_take]; omega), List.length_take, Nat.min_eq_left (by omega), gG_skip hf n (j + 1) (q - 8) _ _ (by simp; omega) hq', List.getElem?_drop, show 8 + (q - 8) = q by omega]
theorem codG_skip {m : Int} {c s : Nat} {back : Bool} {k v : List UInt8} {t a d q : Nat} {x : List UInt8} (hx : x.length = d - a) (had : a ≤ d) (h0 : c = 0 → s = 0) (hq : q < d - a)
    (hb : partBit m (c : Int) (s : Int) ((a : Int), (d : Int)) (((a + q : Nat)) : Int) = false) : (codG m c s back k v t x)[q]? = x[q]? := by
  unfold partBit at hb
  by_cases hm : m = 1
  · simp [hm] at hb
  · have e1 : ((((a + q : Nat)) : Int) - (a : Int)) / 8 = ((q / 8 : Nat) : Int) := by omega
    simp only [hm, decide_false, Bool.false_or] at hb
    rw [e1, Int.toNat_natCast] at hb
    unfold codG
    rw [if_neg hm]
    apply gG_skip (length_stX back k)
    · omega
    · intro hlt
      rw [Nat.zero_add, selB_selB2 c s _ h0]
      have hw : (a : Int) + 8 * ((q / 8 : Nat) : Int) + 8 ≤ (d : Int) := by omega
      cases hsel : selB2 (c : Int) (s : Int) (q / 8) with
      | false => rfl
      | true =>
        rw [hsel, decide_eq_true hw] at hb
        exact absurd hb (by decide)
/-- What is not touched stays. -/
theorem codD_skip {m : Int} {c s : Nat} {back : Bool} {k v b : List UInt8} (h0 : c = 0 → s = 0) : ∀ (P : List (Int × Int)) (t lo i : Nat), chainS (lo : Int) P → (∀ p ∈ P, p.2 ≤ (b.length : Int)) → lo ≤ b.length → i < b.length → lo ≤ i →
    (∀ p ∈ P, p.1 ≤ (i : Int) → (i : Int) < p.2 → partBit m (c : Int) (s : Int) p (i : Int) = false) → (codD m c s back k v P t lo b)[i - lo]? = b[i]?
  | [], t, lo, i, _, _, _, _, hi, _ => by rw [codD, List.getElem?_drop, show lo + (i - lo) = i by omega]
  | p :: r, t, lo, i, ⟨c1, c2, c3⟩, hm, hlo, hib, hi, hn => by
    have hp := hm p (by simp)
    rw [codD]
    have hA : ((b.drop lo).take (p.1.toNat - lo)).length = p.1.toNat - lo := by rw [List.length_take, List.length_drop]; omega
    have hB : ((b.drop p.1.toNat).take (p.2.toNat - p.1.toNat)).length = p.2.toNat - p.1.toNat := by rw [List.length_take, List.length_drop]; omega
    have hC := length_codG m c s back k v t ((b.drop p.1.toNat).take (p.2.toNat - p.1.toNat))
    rw [hB] at hC
    by_cases h1 : i < p.1.toNat
    · rw [List.getElem?_append_left (by omega), List.getElem?_take, if_pos (by omega), List.getElem?_drop, show lo + (i - lo) = i by omega]
    · rw [List.getElem?_append_right (by omega), hA]
      by_cases h2 : i < p.2.toNat
      · rw [List.getElem?_append_left (by omega), show i - lo - (p.1.toNat - lo) = i - p.1.toNat by omega]
        rw [codG_skip (a := p.1.toNat) (d := p.2.toNat) hB (by omega) h0 (by omega) (by
          have := hn p (by simp) (by omega) (by omega)
          rw [show p.1.toNat + (i - p.1.toNat) = i by omega, show ((p.1.toNat : Nat) : Int) = p.1 by omega, show ((p.2.toNat : Nat) : Int) = p.2 by omega]
          exact this), List.getElem?_take, if_pos (by omega), List.getElem?_drop, show p.1.toNat + (i - p.1.toNat) = i by omega]
      · rw [List.getElem?_append_right (by omega), hC, show i - lo - (p.1.toNat - lo) - (p.2.toNat - p.1.toNat) = i - p.2.toNat by omega]
        exact codD_skip h0 r _ p.2.toNat i (by rw [show ((p.2.toNat : Nat) : Int) = p.2 by omega]; exact c3) (fun q hq => hm q (List.mem_cons_of_mem _ hq)) (by omega) hib (by omega) (fun q hq => hn q (List.mem_cons_of_mem _ hq))
theorem codK_skip {m : Int} {c s : Nat} {back : Bool} {k v b : List UInt8} {P : List (Int × Int)} (h0 : c = 0 → s = 0) (hP : chainS 0 P) (hm : ∀ p ∈ P, p.2 ≤ (b.length : Int)) {i : Nat} (hi : i < b.length)
    (hn : ∀ p ∈ P, p.1 ≤ (i : Int) → (i : Int) < p.2 → partBit m (c : Int) (s : Int) p (i : Int) = false) : (codK m c s back k v b P).1[i]? = b[i]? := by
  have h1 := codK_codD m c s back k v b P b 0 0 hP hm rfl (Nat.zero_le _) rfl
  unfold codK
  rw [h1, List.take_zero, List.nil_append]
  have := codD_skip (m := m) (back := back) (k := k) (v := v) h0 P 0 0 i hP hm (Nat.zero_le _) hi (Nat.zero_le _) hn
  simpa using this
/-! ### The runs, and what lies between them -/
theorem chain_split : ∀ (A B : List (Int × Int)) {lo : Int}, chainS lo (A ++ B) → chainS lo A ∧ chainS (endS lo A) B
  | [], _, _, h => ⟨trivial, h⟩
  | _ :: r, B, _, ⟨h1, h2, h3⟩ => by
    obtain ⟨i1, i2⟩ := chain_split r B h3
    exact ⟨⟨h1, h2, i1⟩, i2⟩
theorem runs_cover (b : Int → Bool) : ∀ N : Nat, chainS 0 (runsU b N) ∧ endS 0 (runsU b N) ≤ (N : Int) ∧ ∀ i : Int, 0 ≤ i → i < (N : Int) → (b i = true ↔ ∃ s ∈ runsU b N, s.1 ≤ i ∧ i < s.2)
  | 0 => ⟨trivial, Int.le_refl _, fun i h1 h2 => by omega⟩
  | N + 1 => by
    obtain ⟨h1, h2, h3⟩ := runs_cover b N
    have hinv := runs_inv b N
    have hge := chainS_ge _ h1
    have hle := (chainS_le _ h1).2
    rw [runsU]
    cases hb : b (N : Int) with
    | false =>
      unfold stepR
      rw [if_pos hb]
      refine ⟨h1, by omega, fun i hi1 hi2 => ?_⟩
      by_cases hiN : i = (N : Int)
      · subst hiN
        rw [hb]
        constructor
        · intro h; cases h
        · rintro ⟨s, hs, h4, h5⟩
          have := hle s hs
          omega
      · exact h3 i hi1 (by omega)
    | true =>
      by_cases hc : 0 < N ∧ b ((N : Int) - 1) = true
      · rw [stepR_ext hb hc]
        obtain ⟨hne, hla⟩ := hinv.2.2 hc
        obtain ⟨R', s, hR⟩ : ∃ R' s, runsU b N = R' ++ [s] := ⟨_, _, (List.dropLast_concat_getLast hne).symm⟩
        rw [hR] at h1 h2 h3 hla ⊢
        rw [last_snoc] at hla
        rw [setTo_app]
        obtain ⟨c1, c2, c3, _⟩ := chain_split R' [s] h1
        refine ⟨chainS_app _ _ c1 ⟨c2, by simp only; omega, trivial⟩, by rw [endS_app]; simp only [endS]; omega, fun i hi1 hi2 => ?_⟩
        by_cases hiN : i = (N : Int)
        · subst hiN
          rw [hb]
          constructor
          · intro _; exact ⟨(s.1, (N : Int) + 1), by simp, by simp only; omega, by simp only; omega⟩
          · intro _; rfl
        · rw [h3 i hi1 (by omega)]
          constructor
          · rintro ⟨u, hu, h4, h5⟩
            rcases List.mem_append.1 hu with hu | hu
            · exact ⟨u, List.mem_append.2 (.inl hu), h4, h5⟩
            · simp at hu; subst hu
              exact ⟨(u.1, (N : Int) + 1), by simp, h4, by simp only; omega⟩
          · rintro ⟨u, hu, h4, h5⟩
            rcases List.mem_append.1 hu with hu | hu
            · exact ⟨u, List.mem_append.2 (.inl hu), h4, h5⟩
            · simp at hu; subst hu
              exact ⟨s, by simp, h4, by simp only at h5; omega⟩
      · rw [stepR_new hb hc]
        refine ⟨chainS_app _ _ h1 ⟨h2, by simp only; omega, trivial⟩, by rw [endS_app]; simp only [endS]; omega, fun i hi1 hi2 => ?_⟩
        by_cases hiN : i = (N : Int)
        · subst hiN
          rw [hb]
          constructor
          · intro _; exact ⟨((N : Int), (N : Int) + 1), by simp, by simp only; omega, by simp only; omega⟩
          · intro _; rfl
        · rw [h3 i hi1 (by omega)]
          constructor
          · rintro ⟨u, hu, h4⟩; exact ⟨u, List.mem_append.2 (.inl hu), h4⟩
          · rintro ⟨u, hu, h4, h5⟩
            rcases List.mem_append.1 hu with hu | hu
            · exact ⟨u, hu, h4, h5⟩
            · simp at hu; subst hu; simp only at h4; omega
end Go.Proofs.Ytifmgngmkajahaa
