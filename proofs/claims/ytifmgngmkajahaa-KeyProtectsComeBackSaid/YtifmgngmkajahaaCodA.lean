/- Plain law: blocks of a part, one by one in place, are the part as a whole; what Protect and Open make of bytes. Conditions as stated. -/
import Derived.Test.YtifmgngmkajahaaSchemesD
import Derived.Test.YtifmgngmkajahaaRefUnch
import Derived.Test.YtifmgngmkajahaaStreamE
namespace Go.Proofs.Ytifmgngmkajahaa
open Go.RowKit Kc

/-- Blocks, those selected by a step that hands on a last block. -/
def gG (f : List UInt8 → List UInt8 → List UInt8 × List UInt8) (c e : Nat) : Nat → Nat → List UInt8 → List UInt8 → List UInt8
  | 0, _, _, l => l
  | n + 1, j, last, l => if selB c e j = true then (f (l.take 8) last).1 ++ gG f c e n (j + 1) (f (l.take 8) last).2 (l.drop 8) else l.take 8 ++ gG f c e n (j + 1) last (l.drop 8)
/-- A block of a chain; of a chain taken back. -/
def stC (k : List UInt8) (x last : List UInt8) : List UInt8 × List UInt8 := (encB k (xor8 x last), encB k (xor8 x last))
def stU (k : List UInt8) (x last : List UInt8) : List UInt8 × List UInt8 := (xor8 (decB k x) last, x)
def stX (back : Bool) (k : List UInt8) : List UInt8 → List UInt8 → List UInt8 × List UInt8 := if back = true then stU k else stC k
theorem chG_gG (k : List UInt8) (c e : Nat) : ∀ (n j : Nat) (last l : List UInt8), chG k c e n j last l = gG (stC k) c e n j last l
  | 0, _, _, _ => rfl
  | n + 1, j, last, l => by rw [chG, gG, chG_gG k c e n, chG_gG k c e n]; rfl
theorem unG_gG (k : List UInt8) (c e : Nat) : ∀ (n j : Nat) (last l : List UInt8), unG k c e n j last l = gG (stU k) c e n j last l
  | 0, _, _, _ => rfl
  | n + 1, j, last, l => by rw [unG, gG, unG_gG k c e n, unG_gG k c e n]; rfl
theorem length_stX (back : Bool) (k x last : List UInt8) : (stX back k x last).1.length = 8 := by
  unfold stX
  split <;> rfl
section
variable {f : List UInt8 → List UInt8 → List UInt8 × List UInt8} (hf : ∀ x y, (f x y).1.length = 8) {c e : Nat}
include hf
theorem length_gG : ∀ (n j : Nat) (last l : List UInt8), 8 * n ≤ l.length → (gG f c e n j last l).length = l.length
  | 0, _, _, _, _ => rfl
  | n + 1, j, last, l, h => by
    rw [gG]
    split
    · rw [List.length_append, hf, length_gG n _ _ _ (by simp; omega)]; simp; omega
    · rw [List.length_append, length_gG n _ _ _ (by simp; omega)]; simp; omega
omit hf in
theorem gG_app : ∀ (n j : Nat) (last l r : List UInt8), 8 * n ≤ l.length → gG f c e n j last (l ++ r) = gG f c e n j last l ++ r
  | 0, _, _, _, _, _ => rfl
  | n + 1, j, last, l, r, h => by
    have e1 : (l ++ r).take 8 = l.take 8 := List.take_append_of_le_length (by omega)
    have e2 : (l ++ r).drop 8 = l.drop 8 ++ r := List.drop_append_of_le_length (by omega)
    rw [gG, gG, e1, e2, gG_app n _ _ _ _ (by simp; omega), gG_app n _ _ _ _ (by simp; omega)]
    split <;> rw [List.append_assoc]
/-- The places of so many blocks, from number j on. -/
def blkF (c e a : Nat) : Nat → Nat → List Nat
  | 0, _ => []
  | n + 1, j => if selB c e j = true then (a + 8 * j) :: blkF c e a n (j + 1) else blkF c e a n (j + 1)
/-- One block in place. -/
def inPl (f : List UInt8 → List UInt8 → List UInt8 × List UInt8) (st : List UInt8 × List UInt8) (at_ : Nat) : List UInt8 × List UInt8 :=
  (spl st.1 at_ (f ((st.1.drop at_).take 8) st.2).1, (f ((st.1.drop at_).take 8) st.2).2)
theorem inPl_all : ∀ (n j a : Nat) (xs last : List UInt8), a + 8 * j + 8 * n ≤ xs.length →
    ((blkF c e a n j).foldl (inPl f) (xs, last)).1 = xs.take (a + 8 * j) ++ gG f c e n j last (xs.drop (a + 8 * j))
  | 0, j, a, xs, last, h => by simp [blkF, gG]
  | n + 1, j, a, xs, last, h => by
    rw [blkF, gG]
    by_cases hs : selB c e j = true
    · rw [if_pos hs, if_pos hs, List.foldl_cons]
      have hl := hf ((xs.drop (a + 8 * j)).take 8) last
      have ih := inPl_all n (j + 1) a (spl xs (a + 8 * j) (f ((xs.drop (a + 8 * j)).take 8) last).1) (f ((xs.drop (a + 8 * j)).take 8) last).2 (by rw [length_spl _ _ _ (by omega)]; omega)
      rw [show inPl f (xs, last) (a + 8 * j) = (spl xs (a + 8 * j) (f ((xs.drop (a + 8 * j)).take 8) last).1, (f ((xs.drop (a + 8 * j)).take 8) last).2) from rfl, ih]
      have t1 := spl_take xs (a + 8 * j) (f ((xs.drop (a + 8 * j)).take 8) last).1 (by omega)
      have t2 := spl_drop xs (a + 8 * j) (f ((xs.drop (a + 8 * j)).take 8) last).1 (by omega)
      rw [hl] at t1 t2
      rw [show a + 8 * (j + 1) = a + 8 * j + 8 by omega, t1, t2, List.append_assoc, List.drop_drop]
    · rw [if_neg hs, if_neg hs, inPl_all n (j + 1) a xs last (by omega), show a + 8 * (j + 1) = a + 8 * j + 8 by omega, take_split, List.append_assoc, List.drop_drop]
/-- The blocks of a part, in place, are the part as a whole. -/
theorem inPl_part (a d : Nat) (xs last : List UInt8) (h : a ≤ d) (h2 : d ≤ xs.length) :
    ((blkF c e a ((d - a) / 8) 0).foldl (inPl f) (xs, last)).1 = spl xs a (gG f c e ((d - a) / 8) 0 last ((xs.drop a).take (d - a))) := by
  rw [inPl_all hf _ _ _ _ _ (by omega), Nat.mul_zero, Nat.add_zero]
  have hl : ((xs.drop a).take (d - a)).length = d - a := by rw [List.length_take, List.length_drop]; omega
  have e1 : xs.drop a = (xs.drop a).take (d - a) ++ (xs.drop a).drop (d - a) := (List.take_append_drop _ _).symm
  conv => lhs; rw [e1]
  rw [gG_app _ _ _ _ _ (by omega)]
  unfold spl
  rw [length_gG hf _ _ _ _ (by omega), hl, List.drop_drop]
end
theorem blkF_snoc {c e a : Nat} : ∀ (n j : Nat), blkF c e a (n + 1) j = blkF c e a n j ++ (if selB c e (j + n) = true then [a + 8 * (j + n)] else [])
  | 0, j => by simp [blkF]
  | n + 1, j => by
    rw [blkF, blkF_snoc n (j + 1), blkF, show j + 1 + n = j + (n + 1) by omega]
    split <;> rfl
theorem selB_selB2 (c s k : Nat) (h : c = 0 → s = 0) : selB c (c + s) k = selB2 (c : Int) (s : Int) k := by
  unfold selB selB2
  rw [Bool.eq_iff_iff]
  simp only [Bool.or_eq_true, decide_eq_true_eq]
  constructor
  · rintro (h1 | h1)
    · left; omega
    · right; exact_mod_cast h1
  · rintro (h1 | h1)
    · left; have := h (by omega); omega
    · right; exact_mod_cast h1
theorem blkF_blkN (c s a : Nat) (h : c = 0 → s = 0) : ∀ n, blkN (c : Int) (s : Int) (a : Int) n = (blkF c (c + s) a n 0).map fun q => ((q : Nat) : Int)
  | 0 => rfl
  | n + 1 => by
    rw [blkN, blkF_snoc, Nat.zero_add, selB_selB2 c s n h, blkF_blkN c s a h n]
    split
    · rw [List.map_append]; simp; omega
    · simp

/-- What becomes of a part; of so many parts, with the place in the stream. -/
def codG (m : Int) (c s : Nat) (back : Bool) (k v : List UInt8) (t : Nat) (x : List UInt8) : List UInt8 :=
  if m = 1 then xrL x (strL k v t x.length) else gG (stX back k) c (c + s) (x.length / 8) 0 v x
def codS (m : Int) (c s : Nat) (back : Bool) (k v b : List UInt8) (st : List UInt8 × Nat) (p : Int × Int) : List UInt8 × Nat :=
  (spl st.1 p.1.toNat (codG m c s back k v st.2 ((b.drop p.1.toNat).take (p.2.toNat - p.1.toNat))), st.2 + (p.2.toNat - p.1.toNat))
def codK (m : Int) (c s : Nat) (back : Bool) (k v b : List UInt8) (P : List (Int × Int)) : List UInt8 × Nat := P.foldl (codS m c s back k v b) (b, 0)
theorem length_codG (m : Int) (c s : Nat) (back : Bool) (k v : List UInt8) (t : Nat) (x : List UInt8) : (codG m c s back k v t x).length = x.length := by
  unfold codG
  split
  · rw [length_xrL]
  · exact length_gG (length_stX back k) _ _ _ _ (by omega)
theorem codS_empty (m : Int) (c s : Nat) (back : Bool) (k v b : List UInt8) (st : List UInt8 × Nat) (p : Int × Int) (h : p.2 ≤ p.1) : codS m c s back k v b st p = st := by
  have e : p.2.toNat - p.1.toNat = 0 := by omega
  unfold codS
  rw [e, List.take_zero]
  have h0 : codG m c s back k v st.2 [] = [] := List.eq_nil_of_length_eq_zero (by rw [length_codG]; rfl)
  rw [h0]
  simp [spl]
theorem codK_filter (m : Int) (c s : Nat) (back : Bool) (k v b : List UInt8) : ∀ (P : List (Int × Int)) (st : List UInt8 × Nat), (P.filter (fun p => decide (p.1 < p.2))).foldl (codS m c s back k v b) st = P.foldl (codS m c s back k v b) st
  | [], _ => rfl
  | p :: r, st => by
    rw [List.filter_cons, List.foldl_cons]
    split
    · rw [List.foldl_cons, codK_filter m c s back k v b r]
    · rename_i h
      rw [codS_empty m c s back k v b st p (by simpa using h), codK_filter m c s back k v b r]
/-- The bytes behind the last part are as they were; nothing becomes longer. -/
theorem codK_rest (m : Int) (c s : Nat) (back : Bool) (k v b : List UInt8) : ∀ (P : List (Int × Int)) (st : List UInt8 × Nat) (lo : Int), chainS lo P → 0 ≤ lo → (∀ p ∈ P, p.2 ≤ (b.length : Int)) → st.1.length = b.length → st.1.drop lo.toNat = b.drop lo.toNat →
    (P.foldl (codS m c s back k v b) st).1.length = b.length ∧ (P.foldl (codS m c s back k v b) st).1.drop (endS lo P).toNat = b.drop (endS lo P).toNat
  | [], _, _, _, _, _, h1, h2 => ⟨h1, h2⟩
  | p :: r, st, lo, ⟨c1, c2, c3⟩, h0, hm, h1, h2 => by
    have hp := hm p (by simp)
    have hl : (codG m c s back k v st.2 ((b.drop p.1.toNat).take (p.2.toNat - p.1.toNat))).length = p.2.toNat - p.1.toNat := by
      rw [length_codG, List.length_take, List.length_drop]; omega
    rw [List.foldl_cons]
    refine codK_rest m c s back k v b r _ p.2 c3 (by omega) (fun q hq => hm q (List.mem_cons_of_mem _ hq)) ?_ ?_
    · unfold codS; simp only; rw [length_spl _ _ _ (by rw [hl]; omega), h1]
    · unfold codS
      simp only
      have t2 := spl_drop st.1 p.1.toNat (codG m c s back k v st.2 ((b.drop p.1.toNat).take (p.2.toNat - p.1.toNat))) (by rw [hl]; omega)
      rw [hl, show p.1.toNat + (p.2.toNat - p.1.toNat) = p.2.toNat by omega] at t2
      rw [t2]
      have e : p.2.toNat = lo.toNat + (p.2.toNat - lo.toNat) := by omega
      rw [e, ← List.drop_drop, h2, List.drop_drop]
/-- A byte of a part that is xored in place. -/
theorem xr_step (k v b out : List UInt8) (a t j : Nat) (h : a + j < b.length) (hl : out.length = b.length) :
    (spl out a (xrL ((b.drop a).take j) (strL k v t j))).set (a + j) (b.getD (a + j) 0 ^^^ byteAt k v (t + j)) = spl out a (xrL ((b.drop a).take (j + 1)) (strL k v t (j + 1))) := by
  have l1 : ((b.drop a).take j).length = j := by rw [List.length_take, List.length_drop]; omega
  have l2 : ((b.drop a).take (j + 1)).length = j + 1 := by rw [List.length_take, List.length_drop]; omega
  have g : ∀ q, q < j + 1 → ∀ n, q < n → ((b.drop a).take n).getD q 0 = b.getD (a + q) 0 := fun q hq n hn => by
    simp only [List.getD_eq_getElem?_getD, List.getElem?_take, List.getElem?_drop, if_pos hn]
  have e1 : xrL ((b.drop a).take (j + 1)) (strL k v t (j + 1)) = xrL ((b.drop a).take j) (strL k v t j) ++ [b.getD (a + j) 0 ^^^ byteAt k v (t + j)] := by
    unfold xrL
    rw [l1, l2, List.range_succ, List.map_append]
    congr 1
    · apply List.map_congr_left
      intro q hq
      have hq' := List.mem_range.1 hq
      rw [g q (by omega) _ (by omega), g q (by omega) _ (by omega), strL_get _ _ _ _ _ (by omega), strL_get _ _ _ _ _ (by omega)]
    · simp only [List.map_cons, List.map_nil]
      rw [g j (by omega) _ (by omega), strL_get _ _ _ _ _ (by omega)]
  rw [e1]
  have l3 : (xrL ((b.drop a).take j) (strL k v t j)).length = j := by rw [length_xrL, l1]
  generalize xrL ((b.drop a).take j) (strL k v t j) = X at *
  unfold spl
  rw [List.length_append, l3]
  have l4 : (out.take a).length = a := by rw [List.length_take]; omega
  rw [List.set_append, if_neg (by omega), l4, show a + j - a = j by omega, List.set_append, if_neg (by omega), l3, Nat.sub_self, List.drop_eq_getElem_cons (show a + j < out.length by omega), List.set_cons_zero, List.append_assoc]
  rfl
end Go.Proofs.Ytifmgngmkajahaa
