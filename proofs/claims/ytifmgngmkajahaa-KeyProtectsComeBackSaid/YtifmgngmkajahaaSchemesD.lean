/- Plain law: what is touched, as the program and as the document have it. Conditions as stated. -/
import Derived.Test.YtifmgngmkajahaaSchemesC
namespace Go.Proofs.Ytifmgngmkajahaa

/-- The spans of a part that are encrypted. -/
def spansOf (m c s : Int) (p : Int × Int) : List (Int × Int) := if m = 1 then [p] else (blkN c s p.1 ((p.2 - p.1) / 8).toNat).map fun a => (a, a + 8)
def touS (m c s : Int) (l : List (Int × Int)) (z : Int) : List (Int × Int) := (partsP l z).flatMap (spansOf m c s)
def touL (m c s : Int) (l : List (Int × Int)) (z : Int) : List (Int × Int) := (touS m c s l z).foldl addS []
def touF (m c s z : Int) (l : List (Int × Int)) : Int := if schF m c s ≠ 0 then schF m c s else if z < 0 ∨ 100000 < z then 1 else listF l z
def touV (m c s z : Int) (l : List (Int × Int)) : List (Int × Int) := if touF m c s z l ≠ 0 then [] else touL m c s l z
theorem touF_zero {m c s z : Int} {l : List (Int × Int)} (h : touF m c s z l = 0) : schF m c s = 0 ∧ (0 ≤ z ∧ z ≤ 100000) ∧ listF l z = 0 := by
  unfold touF at h
  split at h
  · rename_i h2; exact absurd h h2
  · rename_i h2
    split at h
    · omega
    · exact ⟨Classical.not_not.1 h2, by omega, h⟩
theorem listF_zero {z : Int} {l : List (Int × Int)} (h : listF l z = 0) : subsF l = 0 ∧ (0 < l.length → sumS l = z) := by
  unfold listF at h
  split at h
  · rename_i h2; exact absurd h h2
  · rename_i h2
    split at h
    · omega
    · rename_i h3
      refine ⟨Classical.not_not.1 h2, fun h4 => ?_⟩
      apply Classical.byContradiction; intro h5
      exact h3 ⟨h4, h5⟩
theorem chainS_le : ∀ (S : List (Int × Int)) {lo : Int}, chainS lo S → (lo ≤ endS lo S) ∧ ∀ s ∈ S, s.2 ≤ endS lo S
  | [], _, _ => ⟨Int.le_refl _, fun s hs => by simp at hs⟩
  | t :: r, lo, ⟨h1, h2, h3⟩ => by
    obtain ⟨i1, i2⟩ := chainS_le r h3
    refine ⟨by rw [endS]; omega, fun s hs => ?_⟩
    rcases List.mem_cons.1 hs with rfl | hs
    · rw [endS]; exact i1
    · rw [endS]; exact i2 s hs
/-- The parts of a right list lie in order, in what there is. -/
theorem parts_chain {l : List (Int × Int)} {z : Int} (h : listF l z = 0) (hz : 0 ≤ z) : chainS 0 (partsP l z) ∧ endS 0 (partsP l z) ≤ z := by
  obtain ⟨h1, h2⟩ := listF_zero h
  obtain ⟨h3, h4⟩ := subsF_zero h1
  have hb := partP_bd h4 l.length (Nat.le_refl _)
  rw [List.take_length] at hb
  obtain ⟨b1, b2, b3, b4, b5, b6, b7, b8, b9⟩ := hb
  unfold partsP
  by_cases h0 : l.length = 0
  · rw [if_pos h0]
    exact ⟨⟨Int.le_refl _, hz, trivial⟩, Int.le_refl _⟩
  · rw [if_neg h0]
    exact ⟨b8, by rw [b9, b7, h2 (by omega)]; exact Int.le_refl _⟩
theorem parts_mem {l : List (Int × Int)} {z : Int} (h : listF l z = 0) (hz : 0 ≤ z) {p : Int × Int} (hp : p ∈ partsP l z) : 0 ≤ p.1 ∧ p.1 ≤ p.2 ∧ p.2 ≤ z := by
  obtain ⟨h1, h2⟩ := parts_chain h hz
  have h3 := chainS_ge _ h1 p hp
  have h4 := (chainS_le _ h1).2 p hp
  omega
theorem parts_filter {l : List (Int × Int)} {z : Int} (h : listF l z = 0) : partsR l z = (partsP l z).filter (fun p => decide (p.1 < p.2)) := by
  obtain ⟨h1, h2⟩ := listF_zero h
  obtain ⟨h3, h4⟩ := subsF_zero h1
  have hb := partP_bd h4 l.length (Nat.le_refl _)
  rw [List.take_length] at hb
  obtain ⟨b1, b2, b3, b4, b5, b6, b7, b8, b9⟩ := hb
  unfold partsP partsR
  by_cases h0 : l.length = 0
  · obtain rfl : l = [] := List.eq_nil_of_length_eq_zero h0
    by_cases hz0 : 0 < z
    · rw [if_pos ⟨h0, hz0⟩, if_pos h0, List.filter_cons, if_pos (by simpa using hz0)]; rfl
    · rw [if_neg (fun h => hz0 h.2), if_pos h0, List.filter_cons, if_neg (by simpa using hz0)]; rfl
  · rw [if_neg (fun h => h0 h.1), if_neg h0, b6]
theorem blkN_mem {c s x a : Int} : ∀ {N : Nat}, a ∈ blkN c s x N ↔ ∃ n : Nat, n < N ∧ selB2 c s n = true ∧ a = x + (n : Int) * 8
  | 0 => by simp [blkN]
  | N + 1 => by
    have ih := blkN_mem (c := c) (s := s) (x := x) (a := a) (N := N)
    rw [blkN]
    split
    · rename_i hs
      rw [List.mem_append, ih]
      constructor
      · rintro (⟨n, h1, h2, h3⟩ | h)
        · exact ⟨n, by omega, h2, h3⟩
        · simp at h; exact ⟨N, by omega, hs, h⟩
      · rintro ⟨n, h1, h2, h3⟩
        by_cases hn : n = N
        · subst hn; right; simp [h3]
        · left; exact ⟨n, by omega, h2, h3⟩
    · rename_i hs
      rw [ih]
      constructor
      · rintro ⟨n, h1, h2, h3⟩; exact ⟨n, by omega, h2, h3⟩
      · rintro ⟨n, h1, h2, h3⟩
        by_cases hn : n = N
        · subst hn; exact absurd h2 hs
        · exact ⟨n, by omega, h2, h3⟩
theorem blkN_chain {c s x lo : Int} (h : lo ≤ x) : ∀ N : Nat, chainS lo ((blkN c s x N).map fun a => (a, a + 8)) ∧ endS lo ((blkN c s x N).map fun a => (a, a + 8)) ≤ x + 8 * (N : Int)
  | 0 => ⟨trivial, by simp only [blkN, List.map_nil, endS]; omega⟩
  | N + 1 => by
    obtain ⟨i1, i2⟩ := blkN_chain h N (c := c) (s := s)
    rw [blkN]
    split
    · rw [List.map_append, endS_app]
      refine ⟨chainS_app _ _ i1 ⟨?_, ?_, trivial⟩, ?_⟩
      · simp only; omega
      · simp only; omega
      · simp only [List.map_cons, List.map_nil, endS]; omega
    · exact ⟨i1, by omega⟩
theorem spans_chain {m c s lo : Int} {p : Int × Int} (h : lo ≤ p.1) (h2 : p.1 ≤ p.2) : chainS lo (spansOf m c s p) ∧ endS lo (spansOf m c s p) ≤ p.2 := by
  unfold spansOf
  split
  · exact ⟨⟨h, h2, trivial⟩, Int.le_refl _⟩
  · obtain ⟨i1, i2⟩ := blkN_chain h ((p.2 - p.1) / 8).toNat (c := c) (s := s)
    exact ⟨i1, by omega⟩
theorem flat_chain {m c s : Int} : ∀ (P : List (Int × Int)) {lo : Int}, chainS lo P → chainS lo (P.flatMap (spansOf m c s))
  | [], _, _ => trivial
  | p :: r, lo, ⟨h1, h2, h3⟩ => by
    obtain ⟨i1, i2⟩ := spans_chain (m := m) (c := c) (s := s) h1 h2
    rw [List.flatMap_cons]
    exact chainS_app _ _ i1 (chainS_mono _ (flat_chain r h3) i2)
/-- Is a place of a part encrypted? -/
def partBit (m c s : Int) (p : Int × Int) (q : Int) : Bool := decide (m = 1) || (decide (p.1 + 8 * ((q - p.1) / 8) + 8 ≤ p.2) && selB2 c s ((q - p.1) / 8).toNat)
theorem partBit_iff {m c s : Int} {p : Int × Int} {q : Int} (h : p.1 ≤ p.2) : (p.1 ≤ q ∧ q < p.2 ∧ partBit m c s p q = true) ↔ ∃ t ∈ spansOf m c s p, t.1 ≤ q ∧ q < t.2 := by
  unfold partBit spansOf
  by_cases hm : m = 1
  · rw [if_pos hm]; simp [hm]
  · rw [if_neg hm]
    simp only [hm, decide_false, Bool.false_or, Bool.and_eq_true, decide_eq_true_eq, List.mem_map]
    constructor
    · rintro ⟨h1, h2, h3, h4⟩
      refine ⟨(p.1 + (((q - p.1) / 8).toNat : Int) * 8, p.1 + (((q - p.1) / 8).toNat : Int) * 8 + 8), ⟨_, blkN_mem.2 ⟨((q - p.1) / 8).toNat, by omega, h4, rfl⟩, rfl⟩, ?_, ?_⟩
      · simp only; omega
      · simp only; omega
    · rintro ⟨t, ⟨a, ha, rfl⟩, h1, h2⟩
      obtain ⟨n, g1, g2, rfl⟩ := blkN_mem.1 ha
      simp only at h1 h2
      have e : (q - p.1) / 8 = (n : Int) := by omega
      refine ⟨by omega, by omega, by omega, ?_⟩
      rw [e, Int.toNat_natCast]; exact g2
/-- The places of so many parts. -/
def bitF (m c s : Int) (b : Int → Bool) (p : Int × Int) : Int → Bool := fun q => if p.1 ≤ q ∧ q < p.2 then partBit m c s p q else b q
def bitsOf (m c s : Int) (P : List (Int × Int)) : Int → Bool := P.foldl (bitF m c s) (fun _ => false)
theorem bitsOf_iff {m c s q : Int} : ∀ (P : List (Int × Int)) (b : Int → Bool) {lo : Int}, chainS lo P → (b q = true → q < lo) →
    ((P.foldl (bitF m c s) b) q = true ↔ b q = true ∨ ∃ p ∈ P, p.1 ≤ q ∧ q < p.2 ∧ partBit m c s p q = true)
  | [], _, _, _, _ => by simp
  | p :: r, b, lo, ⟨h1, h2, h3⟩, hb => by
    rw [List.foldl_cons, bitsOf_iff r (bitF m c s b p) h3 (fun h => by
      unfold bitF at h
      split at h
      · omega
      · have := hb h; omega)]
    unfold bitF
    constructor
    · rintro (h | ⟨t, ht, h⟩)
      · split at h
        · rename_i hc; exact .inr ⟨p, by simp, hc.1, hc.2, h⟩
        · exact .inl h
      · exact .inr ⟨t, List.mem_cons_of_mem _ ht, h⟩
    · rintro (h | ⟨t, ht, h⟩)
      · left
        rw [if_neg (by have := hb h; omega)]; exact h
      · rcases List.mem_cons.1 ht with rfl | ht
        · left; rw [if_pos ⟨h.1, h.2.1⟩]; exact h.2.2
        · exact .inr ⟨t, ht, h⟩
theorem chain_filter {f : Int × Int → Bool} : ∀ (S : List (Int × Int)) {lo : Int}, chainS lo S → chainS lo (S.filter f)
  | [], _, _ => trivial
  | s :: r, lo, ⟨h1, h2, h3⟩ => by
    rw [List.filter_cons]
    split
    · exact ⟨h1, h2, chain_filter r h3⟩
    · exact chainS_mono _ (chain_filter r h3) (by omega)
/-- What the document touches is what the program touches. -/
theorem touch_same {m c s z : Int} {l : List (Int × Int)} (h : listF l z = 0) (hz : 0 ≤ z) : runsU (bitsOf m c s (partsR l z)) z.toNat = touL m c s l z := by
  obtain ⟨h1, h2⟩ := parts_chain h hz
  have hf := parts_filter h
  have hmain := fold_runs (bitsOf m c s (partsR l z)) z (touS m c s l z) 0 (Int.le_refl _) hz (flat_chain _ h1) (fun t ht => by
    obtain ⟨p, hp, htp⟩ := List.mem_flatMap.1 ht
    obtain ⟨p1, p2, p3⟩ := parts_mem h hz hp
    obtain ⟨i1, i2⟩ := spans_chain (m := m) (c := c) (s := s) (Int.le_refl p.1) p2
    have := (chainS_le _ i1).2 t htp
    omega) (fun q hq1 hq2 => by
    unfold bitsOf
    rw [bitsOf_iff (partsR l z) _ (lo := 0) (by rw [hf]; exact chain_filter _ h1) (fun h => by simp at h)]
    simp only [Bool.false_eq_true, false_or]
    constructor
    · rintro ⟨p, hp, h3⟩
      rw [hf] at hp
      have hp2 := (List.mem_filter.1 hp).1
      obtain ⟨p1, p2, p3⟩ := parts_mem h hz hp2
      obtain ⟨t, ht, h4⟩ := (partBit_iff p2).1 h3
      exact ⟨t, List.mem_flatMap.2 ⟨p, hp2, ht⟩, h4⟩
    · rintro ⟨t, ht, h4⟩
      obtain ⟨p, hp, htp⟩ := List.mem_flatMap.1 ht
      obtain ⟨p1, p2, p3⟩ := parts_mem h hz hp
      have h5 := (partBit_iff p2).2 ⟨t, htp, h4⟩
      refine ⟨p, ?_, h5⟩
      rw [hf]
      exact List.mem_filter.2 ⟨hp, by simp; omega⟩)
  exact hmain.symm
theorem length_addS (R : List (Int × Int)) (s : Int × Int) : (addS R s).length ≤ R.length + 1 := by
  unfold addS
  split
  · omega
  · split
    · rw [length_setTo]; omega
    · simp
theorem length_runsU (b : Int → Bool) : ∀ n, (runsU b n).length ≤ n
  | 0 => Nat.le_refl _
  | n + 1 => by
    have := length_runsU b n
    rw [runsU]; unfold stepR
    split
    · omega
    · split
      · rw [length_setTo]; omega
      · simp; omega
end Go.Proofs.Ytifmgngmkajahaa
