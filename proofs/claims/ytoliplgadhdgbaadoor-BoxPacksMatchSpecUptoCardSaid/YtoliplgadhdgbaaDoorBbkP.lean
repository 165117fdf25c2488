/- Boxes in plain words: what is wrong with them, how many bytes they have, and their bytes. Plain. -/
import Derived.Test.YtoliplgadhdgbaaDoorNumP
namespace Go.Proofs.YtoliplgadhdgbaaDoor
mutual
def sizeT : BoxT → Nat
  | .mk _ f d l => 8 + d.length + (if f = 1 then 8 else 0) + sizeL l
def sizeL : List BoxT → Nat
  | [] => 0
  | x :: r => sizeT x + sizeL r
end
/-- What stands in the first four bytes of a box. -/
def firstN (f : Int) (n : Nat) : Nat := if f = 1 then 1 else if f = 2 then 0 else n
/-- The head of a box of a kind, a form and so many bytes. -/
def headB (k : List UInt8) (f : Int) (n : Nat) : List UInt8 := beN 4 (firstN f n) ++ k ++ (if f = 1 then beN 8 n else [])
mutual
def bytT : BoxT → List UInt8
  | .mk k f d l => headB k f (8 + d.length + (if f = 1 then 8 else 0) + sizeL l) ++ d ++ bytL l
def bytL : List BoxT → List UInt8
  | [] => []
  | x :: r => bytT x ++ bytL r
end
/-- The fault of a box itself; is it the last one? -/
def elB (k : List UInt8) (f : Int) (d : List UInt8) (n : Nat) (last : Bool) : Int :=
  if isKindB k = false then 5 else if f < 0 ∨ 2 < f then 4 else if (hasKidsB k = true ∧ 0 < d.length) ∨ (hasKidsB k = false ∧ 0 < n) then 3 else if f = 2 ∧ last = false then 8 else 0
/-- The fault of boxes within so many others; so many were before; and how many there are then. -/
def fauL : List BoxT → Nat → Nat → Int × Nat
  | [], _, c => (0, c)
  | .mk k f d l :: r, dep, c =>
    if 2000 < c + 1 ∨ 8 ≤ dep then (2, c + 1)
    else if elB k f d l.length r.isEmpty ≠ 0 then (elB k f d l.length r.isEmpty, c + 1)
    else if (fauL l (dep + 1) (c + 1)).1 ≠ 0 then fauL l (dep + 1) (c + 1)
    else fauL r dep (fauL l (dep + 1) (c + 1)).2
/-- What is known of boxes that are right. -/
theorem fauL_ok {k : List UInt8} {f : Int} {d : List UInt8} {l r : List BoxT} {dep c m : Nat} (h : fauL (.mk k f d l :: r) dep c = (0, m)) :
    ¬ (2000 < c + 1 ∨ 8 ≤ dep) ∧ elB k f d l.length r.isEmpty = 0 ∧ ∃ m', fauL l (dep + 1) (c + 1) = (0, m') ∧ fauL r dep m' = (0, m) := by
  rw [fauL] at h
  by_cases h1 : 2000 < c + 1 ∨ 8 ≤ dep
  · rw [if_pos h1] at h; injection h with h2; omega
  rw [if_neg h1] at h
  by_cases h2 : elB k f d l.length r.isEmpty ≠ 0
  · rw [if_pos h2] at h; injection h with h3; exact absurd h3 h2
  rw [if_neg h2] at h
  by_cases h3 : (fauL l (dep + 1) (c + 1)).1 ≠ 0
  · rw [if_pos h3] at h; rw [h] at h3; exact absurd rfl h3
  rw [if_neg h3] at h
  refine ⟨h1, by omega, (fauL l (dep + 1) (c + 1)).2, ?_, h⟩
  have : (fauL l (dep + 1) (c + 1)).1 = 0 := by omega
  rw [← this]
theorem elB_ok {k : List UInt8} {f : Int} {d : List UInt8} {n : Nat} {last : Bool} (h : elB k f d n last = 0) :
    isKindB k = true ∧ (f = 0 ∨ f = 1 ∨ f = 2) ∧ (hasKidsB k = true → d = []) ∧ (hasKidsB k = false → n = 0) ∧ (f = 2 → last = true) := by
  unfold elB at h
  cases hk : isKindB k with
  | false => rw [hk, if_pos rfl] at h; omega
  | true =>
    rw [hk, if_neg (by simp)] at h
    by_cases h1 : f < 0 ∨ 2 < f
    · rw [if_pos h1] at h; omega
    rw [if_neg h1] at h
    by_cases h2 : (hasKidsB k = true ∧ 0 < d.length) ∨ (hasKidsB k = false ∧ 0 < n)
    · rw [if_pos h2] at h; omega
    rw [if_neg h2] at h
    by_cases h3 : f = 2 ∧ last = false
    · rw [if_pos h3] at h; omega
    refine ⟨rfl, by omega, fun hh => ?_, fun hh => ?_, fun hf => ?_⟩
    · apply List.eq_nil_of_length_eq_zero
      rcases Nat.eq_zero_or_pos d.length with h4 | h4
      · exact h4
      · exact absurd (.inl ⟨hh, h4⟩) h2
    · rcases Nat.eq_zero_or_pos n with h4 | h4
      · exact h4
      · exact absurd (.inr ⟨hh, h4⟩) h2
    · cases last with
      | true => rfl
      | false => exact absurd ⟨hf, rfl⟩ h3
theorem kind_len {k : List UInt8} (h : isKindB k = true) : k.length = 4 := by
  unfold isKindB at h
  simp only [Bool.and_eq_true, decide_eq_true_iff] at h
  exact h.1
theorem headB_len {k : List UInt8} {f : Int} {n : Nat} (h : k.length = 4) : (headB k f n).length = 8 + (if f = 1 then 8 else 0) := by
  unfold headB
  rw [List.length_append, List.length_append, beN_len, h]
  by_cases hf : f = 1
  · rw [if_pos hf, if_pos hf, beN_len]
  · rw [if_neg hf, if_neg hf]; rfl
/-- Right boxes have as many bytes as they say. -/
theorem bytL_len : ∀ (l : List BoxT) (dep c m : Nat), fauL l dep c = (0, m) → (bytL l).length = sizeL l
  | [], _, _, _, _ => by rw [bytL, sizeL]; rfl
  | .mk k f d l :: r, dep, c, m, h => by
    obtain ⟨_, h2, m', h3, h4⟩ := fauL_ok h
    have hk := kind_len (elB_ok h2).1
    have i1 := bytL_len l _ _ _ h3
    have i2 := bytL_len r _ _ _ h4
    rw [bytL, bytT, sizeL, sizeT, List.length_append, List.length_append, List.length_append, headB_len hk, i1, i2]
    omega
/-! ### Pieces of bytes -/
theorem cutB_ln {b : List UInt8} {i j : Nat} (h2 : j ≤ b.length) : (cutB b i j).length = j - i := by
  unfold cutB; rw [List.length_take, List.length_drop]; omega
theorem cutB_join {b : List UInt8} {i j k : Nat} (h1 : i ≤ j) (h2 : j ≤ k) : cutB b i j ++ cutB b j k = cutB b i k := by
  unfold cutB
  have e : b.drop j = (b.drop i).drop (j - i) := by rw [List.drop_drop]; congr 1; omega
  rw [e, show k - i = (j - i) + (k - j) by omega, List.take_add]
theorem cutB_all (b : List UInt8) : cutB b 0 b.length = b := by unfold cutB; simp
theorem cutB_left {b p q : List UInt8} {i k : Nat} (hk : k ≤ b.length) (h : cutB b i k = p ++ q) : i + p.length ≤ k ∨ p.length = 0 := by
  have := congrArg List.length h
  rw [cutB_ln hk, List.length_append] at this
  omega
theorem cutB_split {b p q : List UInt8} {i k : Nat} (hi : i ≤ k) (hk : k ≤ b.length) (h : cutB b i k = p ++ q) : i + p.length ≤ k ∧ cutB b i (i + p.length) = p ∧ cutB b (i + p.length) k = q := by
  have hl := congrArg List.length h
  rw [cutB_ln hk, List.length_append] at hl
  have h1 : i + p.length ≤ k := by omega
  have e := cutB_join (b := b) (i := i) (j := i + p.length) (k := k) (by omega) h1
  rw [h] at e
  have h2 : (cutB b i (i + p.length)).length = p.length := by rw [cutB_ln (by omega)]; omega
  exact ⟨h1, (List.append_inj e h2).1, (List.append_inj e h2).2⟩
/-! ### A head is read as it was written -/
theorem headP_of {b k : List UInt8} {f : Int} {n i to : Nat} (hk : isKindB k = true) (hf : f = 0 ∨ f = 1 ∨ f = 2) (hn : n < 4294967296) (hto : to ≤ b.length) (hi : i + n ≤ to) (h8 : 8 + (if f = 1 then 8 else 0) ≤ n) (hopen : f = 2 → i + n = to)
    (hh : cutB b i (i + (8 + (if f = 1 then 8 else 0))) = headB k f n) : headP b i to = some (k, f, i + (8 + (if f = 1 then 8 else 0)), i + n) := by
  have hkl := kind_len hk
  unfold headB at hh
  rw [List.append_assoc] at hh
  obtain ⟨g1, g2, g3⟩ := cutB_split (by omega) (by omega) hh
  rw [beN_len] at g1 g2 g3
  obtain ⟨g4, g5, g6⟩ := cutB_split (by omega) (by omega) g3
  rw [hkl] at g4 g5 g6
  rw [show i + 4 + 4 = i + 8 by omega] at g5 g6
  unfold headP
  have h1 : ¬ to - i < 8 := by omega
  rw [if_neg h1, g2, g5]
  rcases hf with rfl | rfl | rfl
  · have e : numB (beN 4 (firstN 0 n)) = n := by
      rw [show firstN 0 n = n from rfl]; exact beN_numB 4 n (by simpa using hn)
    simp only [show ¬ ((0 : Int) = 1) by omega, if_false, Nat.add_zero] at h8 ⊢
    rw [e, if_neg (by omega), if_neg (by omega)]
    unfold headF
    rw [if_pos ⟨hk, by omega, by omega⟩]
  · have e : numB (beN 4 (firstN 1 n)) = 1 := by
      rw [show firstN 1 n = 1 from rfl]; exact beN_numB 4 1 (by omega)
    simp only [if_true] at h8 hh g6 ⊢
    rw [e, if_pos rfl, if_neg (by omega)]
    rw [show i + (8 + 8) = i + 16 by omega] at g6 ⊢
    rw [g6, beN_numB 8 n (by omega)]
    unfold headF
    rw [if_pos ⟨hk, by omega, by omega⟩]
  · have e : numB (beN 4 (firstN 2 n)) = 0 := by
      rw [show firstN 2 n = 0 from rfl]; exact beN_numB 4 0 (by omega)
    simp only [show ¬ ((2 : Int) = 1) by omega, if_false, Nat.add_zero] at h8 ⊢
    have ho := hopen rfl
    rw [e, if_neg (by omega), if_pos rfl]
    unfold headF
    rw [if_pos ⟨hk, by omega, by omega⟩]
    rw [show i + (to - i) = i + n by omega]
/-- And written as it was read. -/
theorem headP_bytes {b k : List UInt8} {f : Int} {i to d e : Nat} (hto : to ≤ b.length) (h : headP b i to = some (k, f, d, e)) :
    d = i + (8 + (if f = 1 then 8 else 0)) ∧ cutB b i d = headB k f (e - i) ∧ (f = 2 → e = to) := by
  unfold headP at h
  split at h
  · cases h
  rename_i h8
  have c4 : (cutB b i (i + 4)).length = 4 := by rw [cutB_ln (by omega)]; omega
  have hcut : cutB b i (i + 8) = cutB b i (i + 4) ++ cutB b (i + 4) (i + 8) := (cutB_join (by omega) (by omega)).symm
  split at h
  · rename_i h1
    split at h
    · cases h
    rename_i h16
    obtain ⟨e1, _, _, _⟩ := headF_some h
    injection e1 with e1 e2; injection e2 with e2 e3; injection e3 with e3 e4
    subst e1 e2 e3 e4
    have c8 : (cutB b (i + 8) (i + 16)).length = 8 := by rw [cutB_ln (by omega)]; omega
    refine ⟨rfl, ?_, fun hc => by omega⟩
    unfold headB
    rw [if_pos rfl, show firstN 1 (i + numB (cutB b (i + 8) (i + 16)) - i) = 1 from rfl, Nat.add_sub_cancel_left, numB_beN 8 _ c8, ← h1, numB_beN 4 _ c4, ← hcut]
    exact (cutB_join (by omega) (by omega)).symm
  · rename_i h1
    split at h
    · rename_i h0
      obtain ⟨e1, _, _, _⟩ := headF_some h
      injection e1 with e1 e2; injection e2 with e2 e3; injection e3 with e3 e4
      subst e1 e2 e3 e4
      refine ⟨rfl, ?_, fun _ => by omega⟩
      unfold headB
      rw [if_neg (by omega), List.append_nil, show firstN 2 (i + (to - i) - i) = 0 from rfl, ← h0, numB_beN 4 _ c4, ← hcut]
    · obtain ⟨e1, _, _, _⟩ := headF_some h
      injection e1 with e1 e2; injection e2 with e2 e3; injection e3 with e3 e4
      subst e1 e2 e3 e4
      refine ⟨rfl, ?_, fun hc => by omega⟩
      unfold headB
      rw [if_neg (by omega), List.append_nil, Nat.add_sub_cancel_left]
      rw [show firstN 0 (numB (cutB b i (i + 4))) = numB (cutB b i (i + 4)) from rfl, numB_beN 4 _ c4, ← hcut]
end Go.Proofs.YtoliplgadhdgbaaDoor
