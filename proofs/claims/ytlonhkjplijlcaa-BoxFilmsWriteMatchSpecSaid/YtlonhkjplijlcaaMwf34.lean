/- Several texts in one: Boxes in plain words: what is wrong with them, how many bytes they have, and their bytes. Plain; Boxes in plain words: what is read is written as it was, and what is written is read as it was. Plain; Walk: sizeOf (program). Conditions as stated. -/
import Derived.Test.YtlonhkjplijlcaaMwf03
import Derived.Test.YtlonhkjplijlcaaMwf33
namespace Go.Proofs.Ytlonhkjplijlcaa
mutual
def sizeT : BoxT → Nat
  | .mk _ f d l => 8 + d.length + (if f = 1 then 8 else 0) + sizeL l
def sizeL : List BoxT → Nat
  | [] => 0
  | x :: r => sizeT x + sizeL r
end
/-- What stands in the first four bytes of a box. -/
def firstN (f : Int) (n : Nat) : Nat := if f = 1 then 1 else if f = 2 then 0 else n
/-- The head of a box of a kind, a form and so many bytes. -/
def headB (k : List UInt8) (f : Int) (n : Nat) : List UInt8 := beN 4 (firstN f n) ++ k ++ (if f = 1 then beN 8 n else [])
mutual
def bytT : BoxT → List UInt8
  | .mk k f d l => headB k f (8 + d.length + (if f = 1 then 8 else 0) + sizeL l) ++ d ++ bytL l
def bytL : List BoxT → List UInt8
  | [] => []
  | x :: r => bytT x ++ bytL r
end
/-- The fault of a box itself; is it the last one? -/
def elB (k : List UInt8) (f : Int) (d : List UInt8) (n : Nat) (last : Bool) : Int :=
  if isKindB k = false then 5 else if f < 0 ∨ 2 < f then 4 else if (hasKidsB k = true ∧ 0 < d.length) ∨ (hasKidsB k = false ∧ 0 < n) then 3 else if f = 2 ∧ last = false then 8 else 0
/-- The fault of boxes within so many others; so many were before; and how many there are then. -/
def fauL : List BoxT → Nat → Nat → Int × Nat
  | [], _, c => (0, c)
  | .mk k f d l :: r, dep, c =>
    if 2000 < c + 1 ∨ 8 ≤ dep then (2, c + 1)
    else if elB k f d l.length r.isEmpty ≠ 0 then (elB k f d l.length r.isEmpty, c + 1)
    else if (fauL l (dep + 1) (c + 1)).1 ≠ 0 then fauL l (dep + 1) (c + 1)
    else fauL r dep (fauL l (dep + 1) (c + 1)).2
/-- What is known of boxes that are right. -/
theorem fauL_ok {k : List UInt8} {f : Int} {d : List UInt8} {l r : List BoxT} {dep c m : Nat} (h : fauL (.mk k f d l :: r) dep c = (0, m)) :
    ¬ (2000 < c + 1 ∨ 8 ≤ dep) ∧ elB k f d l.length r.isEmpty = 0 ∧ ∃ m', fauL l (dep + 1) (c + 1) = (0, m') ∧ fauL r dep m' = (0, m) := by
  rw [fauL] at h
  by_cases h1 : 2000 < c + 1 ∨ 8 ≤ dep
  · rw [if_pos h1] at h; injection h with h2; omega
  rw [if_neg h1] at h
  by_cases h2 : elB k f d l.length r.isEmpty ≠ 0
  · rw [if_pos h2] at h; injection h with h3; exact absurd h3 h2
  rw [if_neg h2] at h
  by_cases h3 : (fauL l (dep + 1) (c + 1)).1 ≠ 0
  · rw [if_pos h3] at h; rw [h] at h3; exact absurd rfl h3
  rw [if_neg h3] at h
  refine ⟨h1, by omega, (fauL l (dep + 1) (c + 1)).2, ?_, h⟩
  have : (fauL l (dep + 1) (c + 1)).1 = 0 := by omega
  rw [← this]
theorem elB_ok {k : List UInt8} {f : Int} {d : List UInt8} {n : Nat} {last : Bool} (h : elB k f d n last = 0) :
    isKindB k = true ∧ (f = 0 ∨ f = 1 ∨ f = 2) ∧ (hasKidsB k = true → d = []) ∧ (hasKidsB k = false → n = 0) ∧ (f = 2 → last = true) := by
  unfold elB at h
  cases hk : isKindB k with
  | false => rw [hk, if_pos rfl] at h; omega
  | true =>
    rw [hk, if_neg (by simp)] at h
    by_cases h1 : f < 0 ∨ 2 < f
    · rw [if_pos h1] at h; omega
    rw [if_neg h1] at h
    by_cases h2 : (hasKidsB k = true ∧ 0 < d.length) ∨ (hasKidsB k = false ∧ 0 < n)
    · rw [if_pos h2] at h; omega
    rw [if_neg h2] at h
    by_cases h3 : f = 2 ∧ last = false
    · rw [if_pos h3] at h; omega
    refine ⟨rfl, by omega, fun hh => ?_, fun hh => ?_, fun hf => ?_⟩
    · apply List.eq_nil_of_length_eq_zero
      rcases Nat.eq_zero_or_pos d.length with h4 | h4
      · exact h4
      · exact absurd (.inl ⟨hh, h4⟩) h2
    · rcases Nat.eq_zero_or_pos n with h4 | h4
      · exact h4
      · exact absurd (.inr ⟨hh, h4⟩) h2
    · cases last with
      | true => rfl
      | false => exact absurd ⟨hf, rfl⟩ h3
theorem kind_len {k : List UInt8} (h : isKindB k = true) : k.length = 4 := by
  unfold isKindB at h
  simp only [Bool.and_eq_true, decide_eq_true_iff] at h
  exact h.1
theorem headB_len {k : List UInt8} {f : Int} {n : Nat} (h : k.length = 4) : (headB k f n).length = 8 + (if f = 1 then 8 else 0) := by
  unfold headB
  rw [List.length_append, List.length_append, beN_len, h]
  by_cases hf : f = 1
  · rw [if_pos hf, if_pos hf, beN_len]
  · rw [if_neg hf, if_neg hf]; rfl
/-- Right boxes have as many bytes as they say. -/
theorem bytL_len : ∀ (l : List BoxT) (dep c m : Nat), fauL l dep c = (0, m) → (bytL l).length = sizeL l
  | [], _, _, _, _ => by rw [bytL, sizeL]; rfl
  | .mk k f d l :: r, dep, c, m, h => by
    obtain ⟨_, h2, m', h3, h4⟩ := fauL_ok h
    have hk := kind_len (elB_ok h2).1
    have i1 := bytL_len l _ _ _ h3
    have i2 := bytL_len r _ _ _ h4
    rw [bytL, bytT, sizeL, sizeT, List.length_append, List.length_append, List.length_append, headB_len hk, i1, i2]
    omega
/-! ### Pieces of bytes -/
theorem cutB_ln {b : List UInt8} {i j : Nat} (h2 : j ≤ b.length) : (cutB b i j).length = j - i := by
  unfold cutB; rw [List.length_take, List.length_drop]; omega
theorem cutB_join {b : List UInt8} {i j k : Nat} (h1 : i ≤ j) (h2 : j ≤ k) : cutB b i j ++ cutB b j k = cutB b i k := by
  unfold cutB
  have e : b.drop j = (b.drop i).drop (j - i) := by rw [List.drop_drop]; congr 1; omega
  rw [e, show k - i = (j - i) + (k - j) by omega, List.take_add]
theorem cutB_all (b : List UInt8) : cutB b 0 b.length = b := by unfold cutB; simp
theorem cutB_left {b p q : List UInt8} {i k : Nat} (hk : k ≤ b.length) (h : cutB b i k = p ++ q) : i + p.length ≤ k ∨ p.length = 0 := by
  have := congrArg List.length h
  rw [cutB_ln hk, List.length_append] at this
  omega
theorem cutB_split {b p q : List UInt8} {i k : Nat} (hi : i ≤ k) (hk : k ≤ b.length) (h : cutB b i k = p ++ q) : i + p.length ≤ k ∧ cutB b i (i + p.length) = p ∧ cutB b (i + p.length) k = q := by
  have hl := congrArg List.length h
  rw [cutB_ln hk, List.length_append] at hl
  have h1 : i + p.length ≤ k := by omega
  have e := cutB_join (b := b) (i := i) (j := i + p.length) (k := k) (by omega) h1
  rw [h] at e
  have h2 : (cutB b i (i + p.length)).length = p.length := by rw [cutB_ln (by omega)]; omega
  exact ⟨h1, (List.append_inj e h2).1, (List.append_inj e h2).2⟩
/-! ### A head is read as it was written -/
theorem headP_of {b k : List UInt8} {f : Int} {n i tt_ : Nat} (hk : isKindB k = true) (hf : f = 0 ∨ f = 1 ∨ f = 2) (hn : n < 4294967296) (hto : tt_ ≤ b.length) (hi : i + n ≤ tt_) (h8 : 8 + (if f = 1 then 8 else 0) ≤ n) (hopen : f = 2 → i + n = tt_)
    (hh : cutB b i (i + (8 + (if f = 1 then 8 else 0))) = headB k f n) : headP b i tt_ = some (k, f, i + (8 + (if f = 1 then 8 else 0)), i + n) := by
  have hkl := kind_len hk
  unfold headB at hh
  rw [List.append_assoc] at hh
  obtain ⟨g1, g2, g3⟩ := cutB_split (by omega) (by omega) hh
  rw [beN_len] at g1 g2 g3
  obtain ⟨g4, g5, g6⟩ := cutB_split (by omega) (by omega) g3
  rw [hkl] at g4 g5 g6
  rw [show i + 4 + 4 = i + 8 by omega] at g5 g6
  unfold headP
  have h1 : ¬ tt_ - i < 8 := by omega
  rw [if_neg h1, g2, g5]
  rcases hf with rfl | rfl | rfl
  · have e : numB (beN 4 (firstN 0 n)) = n := by
      rw [show firstN 0 n = n from rfl]; exact beN_numB 4 n (by simpa using hn)
    simp only [show ¬ ((0 : Int) = 1) by omega, if_false, Nat.add_zero] at h8 ⊢
    rw [e, if_neg (by omega), if_neg (by omega)]
    unfold headF
    rw [if_pos ⟨hk, by omega, by omega⟩]
  · have e : numB (beN 4 (firstN 1 n)) = 1 := by
      rw [show firstN 1 n = 1 from rfl]; exact beN_numB 4 1 (by omega)
    simp only [if_true] at h8 hh g6 ⊢
    rw [e, if_pos rfl, if_neg (by omega)]
    rw [show i + (8 + 8) = i + 16 by omega] at g6 ⊢
    rw [g6, beN_numB 8 n (by omega)]
    unfold headF
    rw [if_pos ⟨hk, by omega, by omega⟩]
  · have e : numB (beN 4 (firstN 2 n)) = 0 := by
      rw [show firstN 2 n = 0 from rfl]; exact beN_numB 4 0 (by omega)
    simp only [show ¬ ((2 : Int) = 1) by omega, if_false, Nat.add_zero] at h8 ⊢
    have ho := hopen rfl
    rw [e, if_neg (by omega), if_pos rfl]
    unfold headF
    rw [if_pos ⟨hk, by omega, by omega⟩]
    rw [show i + (tt_ - i) = i + n by omega]
/-- And written as it was read. -/
theorem headP_bytes {b k : List UInt8} {f : Int} {i tt_ d e : Nat} (hto : tt_ ≤ b.length) (h : headP b i tt_ = some (k, f, d, e)) :
    d = i + (8 + (if f = 1 then 8 else 0)) ∧ cutB b i d = headB k f (e - i) ∧ (f = 2 → e = tt_) := by
  unfold headP at h
  split at h
  · cases h
  rename_i h8
  have c4 : (cutB b i (i + 4)).length = 4 := by rw [cutB_ln (by omega)]; omega
  have hcut : cutB b i (i + 8) = cutB b i (i + 4) ++ cutB b (i + 4) (i + 8) := (cutB_join (by omega) (by omega)).symm
  split at h
  · rename_i h1
    split at h
    · cases h
    rename_i h16
    obtain ⟨e1, _, _, _⟩ := headF_some h
    injection e1 with e1 e2; injection e2 with e2 e3; injection e3 with e3 e4
    subst e1 e2 e3 e4
    have c8 : (cutB b (i + 8) (i + 16)).length = 8 := by rw [cutB_ln (by omega)]; omega
    refine ⟨rfl, ?_, fun hc => by omega⟩
    unfold headB
    rw [if_pos rfl, show firstN 1 (i + numB (cutB b (i + 8) (i + 16)) - i) = 1 from rfl, Nat.add_sub_cancel_left, numB_beN 8 _ c8, ← h1, numB_beN 4 _ c4, ← hcut]
    exact (cutB_join (by omega) (by omega)).symm
  · rename_i h1
    split at h
    · rename_i h0
      obtain ⟨e1, _, _, _⟩ := headF_some h
      injection e1 with e1 e2; injection e2 with e2 e3; injection e3 with e3 e4
      subst e1 e2 e3 e4
      refine ⟨rfl, ?_, fun _ => by omega⟩
      unfold headB
      rw [if_neg (by omega), List.append_nil, show firstN 2 (i + (tt_ - i) - i) = 0 from rfl, ← h0, numB_beN 4 _ c4, ← hcut]
    · obtain ⟨e1, _, _, _⟩ := headF_some h
      injection e1 with e1 e2; injection e2 with e2 e3; injection e3 with e3 e4
      subst e1 e2 e3 e4
      refine ⟨rfl, ?_, fun hc => by omega⟩
      unfold headB
      rw [if_neg (by omega), List.append_nil, Nat.add_sub_cancel_left]
      rw [show firstN 0 (numB (cutB b i (i + 4))) = numB (cutB b i (i + 4)) from rfl, numB_beN 4 _ c4, ← hcut]
end Go.Proofs.Ytlonhkjplijlcaa
namespace Go.Proofs.Ytlonhkjplijlcaa
theorem pre_ok {l ns : List NodeT} {m : Nat} {r : ParR} (h : r.pre l = .ok ns m) : ∃ rs, r = .ok rs m ∧ ns = l ++ rs := by
  cases r with
  | ok rs c =>
    injection h with h1 h2
    subst h2
    exact ⟨rs, rfl, h1.symm⟩
  | err a f => cases h
theorem fauL_cons {k : List UInt8} {f : Int} {d : List UInt8} {l r : List BoxT} {dep c m m' : Nat} (h1 : ¬ (2000 < c + 1 ∨ 8 ≤ dep)) (h2 : elB k f d l.length r.isEmpty = 0) (h3 : fauL l (dep + 1) (c + 1) = (0, m')) (h4 : fauL r dep m' = (0, m)) :
    fauL (.mk k f d l :: r) dep c = (0, m) := by
  rw [fauL, if_neg h1, if_neg (by omega), h3, if_neg (by simp)]
  exact h4
theorem elB_of {k : List UInt8} {f : Int} {d : List UInt8} {n : Nat} {last : Bool} (h1 : isKindB k = true) (h2 : f = 0 ∨ f = 1 ∨ f = 2) (h3 : hasKidsB k = true → d = []) (h4 : hasKidsB k = false → n = 0) (h5 : f = 2 → last = true) : elB k f d n last = 0 := by
  unfold elB
  rw [h1, if_neg (by simp), if_neg (by omega), if_neg, if_neg]
  · rintro ⟨hf, hl⟩
    rw [h5 hf] at hl; cases hl
  · rintro (⟨a, b⟩ | ⟨a, b⟩)
    · rw [h3 a] at b; exact absurd b (Nat.lt_irrefl _)
    · rw [h4 a] at b; exact absurd b (Nat.lt_irrefl _)
theorem cutB_nil {b : List UInt8} {i j : Nat} (h : j ≤ i) : cutB b i j = [] := by unfold cutB; rw [show j - i = 0 by omega]; rfl
theorem isEmpty_of {b : List UInt8} {e tt_ dep c m : Nat} {rs : List NodeT} (h : tt_ ≤ e) (hp : parF b e tt_ dep c = .ok rs m) : (boxesOf b rs).isEmpty = true := by
  rw [parF_end h] at hp
  injection hp with h1 _
  subst h1
  rw [boxesOf]; rfl
/-- What is read as boxes is right, and they are written as they were. -/
theorem par_bytes {b : List UInt8} : ∀ (n f tt_ dep c m : Nat) (l : List NodeT), tt_ - f < n → f ≤ tt_ → tt_ ≤ b.length → parF b f tt_ dep c = .ok l m → fauL (boxesOf b l) dep c = (0, m) ∧ bytL (boxesOf b l) = cutB b f tt_
  | 0, _, _, _, _, _, _, h, _, _, _ => absurd h (Nat.not_lt_zero _)
  | n + 1, f, tt_, dep, c, m, l, hn, hft, htb, hp => by
    by_cases he : tt_ ≤ f
    · rw [parF_end he] at hp
      injection hp with h1 h2
      subst h1 h2
      rw [boxesOf, cutB_nil he, bytL, fauL]
      exact ⟨rfl, rfl⟩
    have hlt : f < tt_ := by omega
    by_cases hc : 2000 < c + 1 ∨ 8 ≤ dep
    · rw [parF_large hlt hc] at hp; cases hp
    cases hh : headP b f tt_ with
    | none => rw [parF_none hlt hc hh] at hp; cases hp
    | some r =>
      obtain ⟨k, fo, d, e⟩ := r
      obtain ⟨a1, a2, a3, a4, a5, a6⟩ := headP_some hh
      obtain ⟨b1, b2, b3⟩ := headP_bytes htb hh
      have hcut : cutB b f tt_ = cutB b f d ++ (cutB b d e ++ cutB b e tt_) := by
        rw [cutB_join (by omega) (by omega), cutB_join (by omega) (by omega)]
      cases hk : hasKidsB k with
      | true =>
        rw [parF_kids hlt hc hh hk] at hp
        cases hq : parF b d e (dep + 1) (c + 1) with
        | err a g => rw [hq] at hp; cases hp
        | ok ks m' =>
          rw [hq] at hp
          obtain ⟨rs, hr, rfl⟩ := pre_ok hp
          obtain ⟨i1, i2⟩ := par_bytes n d e (dep + 1) (c + 1) m' ks (by omega) (by omega) (by omega) hq
          obtain ⟨i3, i4⟩ := par_bytes n e tt_ dep m' m rs (by omega) (by omega) htb hr
          have hl := bytL_len _ _ _ _ i1
          rw [i2, cutB_ln (by omega)] at hl
          have hbx : boxesOf b ([NodeT.mk k fo f d e ks] ++ rs) = BoxT.mk k fo [] (boxesOf b ks) :: boxesOf b rs := by
            show boxesOf b (NodeT.mk k fo f d e ks :: rs) = _
            rw [boxesOf, boxOf, if_pos hk]
          rw [hbx]
          refine ⟨fauL_cons hc (elB_of a4 a6 (fun _ => rfl) (fun h => by rw [hk] at h; cases h) (fun h2 => isEmpty_of (by have := b3 h2; omega) hr)) i1 i3, ?_⟩
          rw [bytL, bytT, i2, i4, hcut, b2, ← hl, List.length_nil]
          rw [show 8 + 0 + (if fo = 1 then 8 else 0) + (e - d) = e - f by generalize (if fo = 1 then 8 else 0) = q at b1 ⊢; omega]
          simp [List.append_assoc]
      | false =>
        rw [parF_leaf hlt hc hh hk] at hp
        obtain ⟨rs, hr, rfl⟩ := pre_ok hp
        obtain ⟨i3, i4⟩ := par_bytes n e tt_ dep (c + 1) m rs (by omega) (by omega) htb hr
        have hbx : boxesOf b ([NodeT.mk k fo f d e []] ++ rs) = BoxT.mk k fo (cutB b d e) [] :: boxesOf b rs := by
          show boxesOf b (NodeT.mk k fo f d e [] :: rs) = _
          rw [boxesOf, boxOf, if_neg (by rw [hk]; simp), boxesOf]
        rw [hbx]
        refine ⟨fauL_cons hc (elB_of a4 a6 (fun h => by rw [hk] at h; cases h) (fun _ => rfl) (fun h2 => isEmpty_of (by have := b3 h2; omega) hr)) (by rw [fauL]) i3, ?_⟩
        rw [bytL, bytT, i4, hcut, b2, cutB_ln (by omega), sizeL, bytL]
        rw [show 8 + (e - d) + (if fo = 1 then 8 else 0) + 0 = e - f by generalize (if fo = 1 then 8 else 0) = q at b1 ⊢; omega]
        simp [List.append_assoc]
/-- What is written is read as it was. -/
theorem byt_parse {b : List UInt8} (hb : b.length < 4294967296) : ∀ (l : List BoxT) (f tt_ dep c m : Nat), fauL l dep c = (0, m) → f ≤ tt_ → tt_ ≤ b.length → cutB b f tt_ = bytL l → ∃ ns, parF b f tt_ dep c = .ok ns m ∧ boxesOf b ns = l
  | [], f, tt_, dep, c, m, hfl, hft, htb, hcut => by
    rw [fauL] at hfl
    injection hfl with _ h2
    subst h2
    have := congrArg List.length hcut
    rw [cutB_ln htb, bytL] at this
    refine ⟨[], parF_end (by simp at this; omega), by rw [boxesOf]⟩
  | .mk k fo d kl :: r, f, tt_, dep, c, m, hfl, hft, htb, hcut => by
    obtain ⟨h1, h2, m', h3, h4⟩ := fauL_ok hfl
    obtain ⟨e1, e2, e3, e4, e5⟩ := elB_ok h2
    have hl1 := bytL_len _ _ _ _ h3
    have hl2 := bytL_len _ _ _ _ h4
    have hk4 := kind_len e1
    rw [bytL, bytT] at hcut
    obtain ⟨N, hN⟩ : ∃ N, N = 8 + d.length + (if fo = 1 then 8 else 0) + sizeL kl := ⟨_, rfl⟩
    rw [← hN] at hcut
    obtain ⟨H, hH⟩ : ∃ H, H = 8 + (if fo = 1 then 8 else 0) := ⟨_, rfl⟩
    have hhl : (headB k fo N).length = H := by rw [headB_len hk4, hH]
    obtain ⟨p1, p2, p3⟩ := cutB_split hft htb hcut
    have hbl : (headB k fo N ++ d ++ bytL kl).length = N := by rw [List.length_append, List.length_append, hhl, hl1, hH, hN]; omega
    rw [hbl] at p1 p2 p3
    rw [List.append_assoc] at p2
    obtain ⟨q1, q2, q3⟩ := cutB_split (by omega) (by omega) p2
    rw [hhl] at q1 q2 q3
    have hHN : H ≤ N := by omega
    have h8 : 8 ≤ H := by omega
    have hop : fo = 2 → f + N = tt_ := fun h5 => by
      have h6 := e5 h5
      cases r with
      | cons x r => cases h6
      | nil =>
        rw [bytL] at p3
        have := congrArg List.length p3
        rw [cutB_ln htb] at this
        simp at this
        omega
    have hhd := headP_of (b := b) (k := k) (f := fo) (n := N) (i := f) (tt_ := tt_) e1 e2 (by omega) htb p1 (by rw [← hH]; exact hHN) hop (by rw [← hH]; exact q2)
    rw [← hH] at hhd
    obtain ⟨rs, hr1, hr2⟩ := byt_parse hb r (f + N) tt_ dep m' m h4 p1 htb p3
    cases hk : hasKidsB k with
    | true =>
      have hd := e3 hk
      subst hd
      rw [List.nil_append] at q3
      obtain ⟨ks, hk1, hk2⟩ := byt_parse hb kl (f + H) (f + N) (dep + 1) (c + 1) m' h3 (by omega) (by omega) q3
      refine ⟨[NodeT.mk k fo f (f + H) (f + N) ks] ++ rs, ?_, ?_⟩
      · rw [parF_kids (by omega) h1 hhd hk, hk1]
        show (parF b (f + N) tt_ dep m').pre _ = _
        rw [hr1]; rfl
      · show boxesOf b (NodeT.mk k fo f (f + H) (f + N) ks :: rs) = _
        rw [boxesOf, boxOf, if_pos hk, hk2, hr2]
    | false =>
      have hkl := List.eq_nil_of_length_eq_zero (e4 hk)
      subst hkl
      rw [fauL] at h3
      injection h3 with _ h3
      subst h3
      rw [bytL, List.append_nil] at q3
      refine ⟨[NodeT.mk k fo f (f + H) (f + N) []] ++ rs, ?_, ?_⟩
      · rw [parF_leaf (by omega) h1 hhd hk, hr1]; rfl
      · show boxesOf b (NodeT.mk k fo f (f + H) (f + N) [] :: rs) = _
        rw [boxesOf, boxOf, if_neg (by rw [hk]; simp), boxesOf, q3, hr2]
end Go.Proofs.Ytlonhkjplijlcaa
namespace Go.Proofs.Ytlonhkjplijlcaa
open Go.RowKit
theorem BxsAt.ext {w w' : World} {G : Nat → Prop} (he : Ext w w') {A : Option Addr} {n c : Nat} {l : List BoxT} (h : BxsAt w G A n c l) : BxsAt w' G A n c l := by
  induction h with
  | mk hs l h hg hl h1 _ ih => exact .mk hs l (h.ext he) hg hl (fun i y x hy hx => ⟨(h1 i y x hy hx).1, (h1 i y x hy hx).2.1, (h1 i y x hy hx).2.2.1.ext he, (h1 i y x hy hx).2.2.2⟩) ih
theorem BxHd.ext {w w' : World} {G : Nat → Prop} {y : BoxH} {x : BoxT} (he : Ext w w') (h : BxHd w G y x) : BxHd w' G y x := ⟨h.1, h.2.1, h.2.2.1.ext he, h.2.2.2⟩
theorem sizeT_eq (x : BoxT) : sizeT x = 8 + x.data.length + (if x.form = 1 then 8 else 0) + sizeL x.kids := by cases x; rw [sizeT]; rfl
theorem sizeL_app : ∀ (a b : List BoxT), sizeL (a ++ b) = sizeL a + sizeL b
  | [], b => by simp [sizeL]
  | x :: a, b => by rw [List.cons_append, sizeL, sizeL, sizeL_app a b]; omega
theorem sizeL_take {l : List BoxT} {k : Nat} (h : k < l.length) : sizeL (l.take (k + 1)) = sizeL (l.take k) + sizeT l[k] := by
  rw [List.take_succ_eq_append_getElem h, sizeL_app]; simp [sizeL]
theorem sizeL_le (l : List BoxT) (k : Nat) : sizeL (l.take k) ≤ sizeL l := by
  conv => rhs; rw [← List.take_append_drop k l, sizeL_app]
  omega
/-- A box as a value. -/
abbrev bxV (y : BoxH) (x : BoxT) : Value := .agg #[.string ⟨x.kind.toArray⟩, .int .i64 x.form, .slice y.dA y.dn y.dc, .slice y.kA y.kn y.kc]
def SizStmt (s : Nat) : Prop := ∀ {x : BoxT} {y : BoxH} {w : World} {G : Nat → Prop}, SizeOf.sizeOf x ≤ s → BxHd w G y x → BxsAt w G y.kA y.kn y.kc x.kids → sizeT x < 4611686018427387904 →
  Calls Try.prog 18 #[bxV y x] w fun e w' => e = .returned (.int .i64 (sizeT x : Int)) ∧ Ext w w'
set_option linter.unusedVariables false in
set_option maxRecDepth 100000 in
set_option maxHeartbeats 4000000 in
theorem size_step (s : Nat) (ih : ∀ s', s' < s → SizStmt s') : SizStmt s := by
  intro x y w G hs hh hk hb
  show Calls Try.prog 18 #[.agg #[.string ⟨x.kind.toArray⟩, .int .i64 x.form, .slice y.dA y.dn y.dc, .slice y.kA y.kn y.kc]] w _
  have hd := hh.2.2.1.len
  have hkl := hk.len
  obtain ⟨ys, ha, hy, hh1, hk1⟩ := hk.parts
  have HA := hide ha
  have HH1 := hide hh1
  have HK1 := hide hk1
  have IH := hide ih
  have HY := hide hy
  have HKL := hide hkl
  have hse := sizeT_eq x
  rw [hd] at hse
  have HSL := hide (fun (k : Nat) (h : k < x.kids.length) => sizeL_take h)
  have HSE := hide (fun (k : Nat) => sizeL_le x.kids k)
  have HSZ := hide (fun (k : Nat) (h : k < x.kids.length) => (by have := kids_lt x; have := elem_lt (List.getElem_mem h); omega : SizeOf.sizeOf x.kids[k] < s))
  have E0 := hide (Ext.alloc w (.cells #[.string ⟨x.kind.toArray⟩, .int .i64 x.form, .slice y.dA y.dn y.dc, .slice y.kA y.kn y.kc] 47))
  have HT : Hid (sizeL (x.kids.take y.kn) = sizeL x.kids) := hide (by rw [← hkl, List.take_length])
  have hkb := ha.bound
  have X0 := hide (Blk.new w 47 #[.string ⟨x.kind.toArray⟩, .int .i64 x.form, .slice y.dA y.dn y.dc, .slice y.kA y.kn y.kc])
  obtain ⟨S, hS⟩ : ∃ S, sizeT x = S := ⟨_, rfl⟩
  rw [hS] at hse hb ⊢
  have hl0 := HSE.out 0
  clear ha hh1 hk1 ih hy hkl hd hh hk hs hS
  generalize x.form = xf at *
  generalize x.kind = xk at *
  generalize y.dn = dn at *
  generalize y.dA = dA at *
  generalize y.dc = dc at *
  generalize y.kn = kn at *
  generalize y.kA = kA at *
  generalize y.kc = kc at *
  generalize x.kids = l at *
  obtain ⟨n1, hn1⟩ : ∃ n1, n1 = 8 + dn + (if xf = 1 then 8 else 0) := ⟨_, rfl⟩
  rw [← hn1] at hse
  have HN1 := hide hn1
  have hnb : n1 ≤ S := by omega
  have HSS := hide hse
  have HLE : Hid (∀ k, n1 + sizeL (l.take k) ≤ S) := hide (fun k => by have := HSE.out k; omega)
  have hdb : 8 + dn + 8 ≤ S + 8 := by split at hn1 <;> omega
  clear hse hn1 hl0
  go_enter Try.func18, Try.ntmps18
  go_upto_region 1 with (fail)
  refine gen_wpC fun w0 h0 => ?_
  have F0 : Hid (Ext w w0) := hide (by rw [h0]; exact E0.out)
  have Y0 := hide (show Blk w0 w.heap.size 47 #[.string ⟨xk.toArray⟩, .int .i64 xf, .slice dA dn dc, .slice kA kn kc] from by rw [h0]; exact X0.out)
  clear h0 E0 X0
  have y1 : w0.cell? ⟨w.heap.size, 1, none⟩ = some (.int .i64 xf) := Y0.out.cell 1
  have y2 : w0.cell? ⟨w.heap.size, 2, none⟩ = some (.slice dA dn dc) := Y0.out.cell 2
  have y3 : w0.cell? ⟨w.heap.size, 3, none⟩ = some (.slice kA kn kc) := Y0.out.cell 3
  have j1 : IntKind.i64.wrap (8 + (dn : Int)) = 8 + (dn : Int) := by rw [IntKind.wrap_i64]; omega
  have j2 : IntKind.i64.wrap (8 + (dn : Int) + 8) = 8 + (dn : Int) + 8 := by rw [IntKind.wrap_i64]; omega
  go_upto_if 12 with (fail)
  go_cut [3] (fun r3 wx => r3 = .int .i64 (n1 : Int) ∧ w0 = wx)
  case first =>
    by_cases hf : xf = 1
    · have HN2 : Hid ((n1 : Int) = 8 + (dn : Int) + 8) := hide (by have := HN1.out; rw [if_pos hf] at this; omega)
      subst hf
      go_wp2_with fail
      go_meet
      exact ⟨int_val HN2.out.symm, rfl⟩
    · have HN2 : Hid ((n1 : Int) = 8 + (dn : Int)) := hide (by have := HN1.out; rw [if_neg hf] at this; omega)
      have d0 : (xf == 1) = false := by rw [beq_eq_false_iff_ne]; exact hf
      go_wp2_with fail
      go_meet
      exact ⟨int_val HN2.out.symm, rfl⟩
  case rest =>
  obtain ⟨rfl, rfl⟩ := hcut
  clear j1 j2 y1 y2
  go_wp2_with fail
  go_loopw [3, 18] (fun r3 ri wr => ∃ k : Nat, k ≤ kn ∧ ri = .int .i64 k ∧ r3 = .int .i64 ((n1 + sizeL (l.take k) : Nat) : Int) ∧ Hid (Ext w0 wr)) (fun _ ri _ => kn - (intOf ri).toNat)
  case atStart => exact ⟨0, by omega, rfl, by simp [sizeL], hide (Ext.refl _)⟩
  case round =>
    obtain ⟨k, hk, rfl, rfl, HX⟩ := hrel
    by_cases hlt : k < kn
    · have hkl : k < l.length := by have := HKL.out; omega
      have hky : k < ys.length := by have := HY.out; omega
      have EX := Ext.trans F0.out HX.out
      have hat := HA.out.ext EX
      have hq := (HH1.out k _ _ (List.getElem?_eq_getElem hky) (List.getElem?_eq_getElem hkl)).ext EX
      have hr := (HK1.out k _ _ (List.getElem?_eq_getElem hky) (List.getElem?_eq_getElem hkl)).ext EX
      have hsz := HSZ.out k hkl
      have HSU := hide (HSL.out k hkl)
      have hle := HLE.out (k + 1)
      rw [HSU.out] at hle
      obtain ⟨b, o, rfl, _⟩ := hat.addr (by omega)
      have gy : ys.getD k default = ys[k] := by simp [List.getD, hky]
      generalize ys[k] = z at *
      generalize l[k] = u at *
      have a0 : wr.cell? ⟨b, o + k * 4, none⟩ = some (.string ⟨z.kind.toArray⟩) := hat.cellK hlt default 0 _ (by rw [gy]; rfl)
      have a1 : wr.cell? ⟨b, o + k * 4 + 1, none⟩ = some (.int .i64 z.form) := hat.cellK hlt default 1 _ (by rw [gy]; rfl)
      have a2 : wr.cell? ⟨b, o + k * 4 + 2, none⟩ = some (.slice z.dA z.dn z.dc) := hat.cellK hlt default 2 _ (by rw [gy]; rfl)
      have a3 : wr.cell? ⟨b, o + k * 4 + 3, none⟩ = some (.slice z.kA z.kn z.kc) := hat.cellK hlt default 3 _ (by rw [gy]; rfl)
      rw [hq.1] at a0
      rw [hq.2.1] at a1
      have HC := hide (IH.out _ hsz (Nat.le_refl _) (hq.ext (Ext.alloc wr (.cells #[.string ⟨u.kind.toArray⟩, .int .i64 u.form, .slice z.dA z.dn z.dc, .slice z.kA z.kn z.kc] 47))) (hr.ext (Ext.alloc wr (.cells #[.string ⟨u.kind.toArray⟩, .int .i64 u.form, .slice z.dA z.dn z.dc, .slice z.kA z.kn z.kc] 47))) (by omega))
      generalize sizeT u = su at *
      generalize sizeL (l.take k) = sl at *
      have i1 : (k : Int) < (kn : Int) := by omega
      have i0 : (0 : Int) ≤ (k : Int) := by omega
      have i8 : IntKind.i64.wrap ((k : Int) + 1) = (k : Int) + 1 := by rw [IntKind.wrap_i64]; omega
      have i9 : IntKind.i64.wrap (((n1 + sl : Nat) : Int) + (su : Int)) = ((n1 + (sl + su) : Nat) : Int) := by rw [IntKind.wrap_i64]; omega
      generalize ((n1 + sl : Nat) : Int) = acc at *
      clear hat hq hr hsz gy EX hky hkl
      go_wp2_with fail
      with_reducible refine HC.out.mono ?_
      rintro e w5 ⟨rfl, e5⟩
      have E5 := hide (Ext.trans HX.out (Ext.trans (Ext.alloc _ _) e5))
      clear e5
      go_wp2_with fail
      exact ⟨⟨k + 1, by omega, by go_num, int_val (by rw [HSU.out]; omega), E5⟩, by simp [intOf]; omega⟩
    · obtain rfl : k = kn := by omega
      have HE : Hid (((n1 + sizeL (l.take k) : Nat) : Int) = (S : Int)) := hide (by rw [HT.out]; have := HSS.out; omega)
      clear hlt
      go_wp2_with fail
      go_ret
      exact ⟨ret_int HE.out, Ext.trans F0.out HX.out⟩
theorem size_any (s : Nat) : SizStmt s := by
  induction s using Nat.strongRecOn with
  | _ s ih => exact size_step s ih
end Go.Proofs.Ytlonhkjplijlcaa
