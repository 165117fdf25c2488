/- Several texts in one: Proved: for every key, iv, bytes, place and cut KeyCountersJoin returns true: bytes that Counter encrypts in two parts are encrypted as at once, and come back by the same way; the arguments read as they did. Conditions: none; Walk of the document's ask. Conditions: none; Walks of Counter (both), whatever the arguments. Conditions: none; Plain law: blocks of a part, one by one in place, are the part as a whole; what Protect and Open make of bytes. Conditions as stated; Walks: First, coded of the program. Conditions as stated. -/
import Derived.Test.YtkbmgakehlmcnaaMtq10
import Derived.Test.YtkbmgakehlmcnaaMtq11
import Derived.Test.YtkbmgakehlmcnaaMtq03
import Derived.Test.YtkbmgakehlmcnaaMtq08
import Derived.Test.YtkbmgakehlmcnaaMtq00
import Derived.Test.YtkbmgakehlmcnaaMtq05
namespace Go.Proofs.Ytkbmgakehlmcnaa
open Go.ChangeShapes Go.WideShapes Go.ChangeAt Go.RowKit Kc
theorem modeF_zero {n1 n2 n : Nat} (h : modeF n1 n2 n = 0) : n1 = 16 ∧ n2 = 8 ∧ n ≤ 100000 := by
  unfold modeF at h
  split at h
  · omega
  · split at h
    · omega
    · omega
end Go.Proofs.Ytkbmgakehlmcnaa
namespace Go.Proofs.Ytkbmgakehlmcnaa
open Go.RowKit Kc
def gG (f : List UInt8 → List UInt8 → List UInt8 × List UInt8) (c e : Nat) : Nat → Nat → List UInt8 → List UInt8 → List UInt8
  | 0, _, _, l => l
  | n + 1, j, last, l => if selB c e j = true then (f (l.take 8) last).1 ++ gG f c e n (j + 1) (f (l.take 8) last).2 (l.drop 8) else l.take 8 ++ gG f c e n (j + 1) last (l.drop 8)
def stC (k : List UInt8) (x last : List UInt8) : List UInt8 × List UInt8 := (encB k (xor8 x last), encB k (xor8 x last))
def stU (k : List UInt8) (x last : List UInt8) : List UInt8 × List UInt8 := (xor8 (decB k x) last, x)
def stX (back : Bool) (k : List UInt8) : List UInt8 → List UInt8 → List UInt8 × List UInt8 := if back = true then stU k else stC k
theorem length_stX (back : Bool) (k x last : List UInt8) : (stX back k x last).1.length = 8 := by
  unfold stX
  split <;> rfl
section
variable {f : List UInt8 → List UInt8 → List UInt8 × List UInt8} (hf : ∀ x y, (f x y).1.length = 8) {c e : Nat}
include hf
theorem length_gG : ∀ (n j : Nat) (last l : List UInt8), 8 * n ≤ l.length → (gG f c e n j last l).length = l.length
  | 0, _, _, _, _ => rfl
  | n + 1, j, last, l, h => by
    rw [gG]
    split
    · rw [List.length_append, hf, length_gG n _ _ _ (by simp; omega)]; simp; omega
    · rw [List.length_append, length_gG n _ _ _ (by simp; omega)]; simp; omega
omit hf in
theorem gG_app : ∀ (n j : Nat) (last l r : List UInt8), 8 * n ≤ l.length → gG f c e n j last (l ++ r) = gG f c e n j last l ++ r
  | 0, _, _, _, _, _ => rfl
  | n + 1, j, last, l, r, h => by
    have e1 : (l ++ r).take 8 = l.take 8 := List.take_append_of_le_length (by omega)
    have e2 : (l ++ r).drop 8 = l.drop 8 ++ r := List.drop_append_of_le_length (by omega)
    rw [gG, gG, e1, e2, gG_app n _ _ _ _ (by simp; omega), gG_app n _ _ _ _ (by simp; omega)]
    split <;> rw [List.append_assoc]
def blkF (c e a : Nat) : Nat → Nat → List Nat
  | 0, _ => []
  | n + 1, j => if selB c e j = true then (a + 8 * j) :: blkF c e a n (j + 1) else blkF c e a n (j + 1)
def inPl (f : List UInt8 → List UInt8 → List UInt8 × List UInt8) (st : List UInt8 × List UInt8) (at_ : Nat) : List UInt8 × List UInt8 :=
  (spl st.1 at_ (f ((st.1.drop at_).take 8) st.2).1, (f ((st.1.drop at_).take 8) st.2).2)
theorem inPl_all : ∀ (n j a : Nat) (xs last : List UInt8), a + 8 * j + 8 * n ≤ xs.length →
    ((blkF c e a n j).foldl (inPl f) (xs, last)).1 = xs.take (a + 8 * j) ++ gG f c e n j last (xs.drop (a + 8 * j))
  | 0, j, a, xs, last, h => by simp [blkF, gG]
  | n + 1, j, a, xs, last, h => by
    rw [blkF, gG]
    by_cases hs : selB c e j = true
    · rw [if_pos hs, if_pos hs, List.foldl_cons]
      have hl := hf ((xs.drop (a + 8 * j)).take 8) last
      have ih := inPl_all n (j + 1) a (spl xs (a + 8 * j) (f ((xs.drop (a + 8 * j)).take 8) last).1) (f ((xs.drop (a + 8 * j)).take 8) last).2 (by rw [length_spl _ _ _ (by omega)]; omega)
      rw [show inPl f (xs, last) (a + 8 * j) = (spl xs (a + 8 * j) (f ((xs.drop (a + 8 * j)).take 8) last).1, (f ((xs.drop (a + 8 * j)).take 8) last).2) from rfl, ih]
      have t1 := spl_take xs (a + 8 * j) (f ((xs.drop (a + 8 * j)).take 8) last).1 (by omega)
      have t2 := spl_drop xs (a + 8 * j) (f ((xs.drop (a + 8 * j)).take 8) last).1 (by omega)
      rw [hl] at t1 t2
      rw [show a + 8 * (j + 1) = a + 8 * j + 8 by omega, t1, t2, List.append_assoc, List.drop_drop]
    · rw [if_neg hs, if_neg hs, inPl_all n (j + 1) a xs last (by omega), show a + 8 * (j + 1) = a + 8 * j + 8 by omega, take_split, List.append_assoc, List.drop_drop]
theorem inPl_part (a d : Nat) (xs last : List UInt8) (h : a ≤ d) (h2 : d ≤ xs.length) :
    ((blkF c e a ((d - a) / 8) 0).foldl (inPl f) (xs, last)).1 = spl xs a (gG f c e ((d - a) / 8) 0 last ((xs.drop a).take (d - a))) := by
  rw [inPl_all hf _ _ _ _ _ (by omega), Nat.mul_zero, Nat.add_zero]
  have hl : ((xs.drop a).take (d - a)).length = d - a := by rw [List.length_take, List.length_drop]; omega
  have e1 : xs.drop a = (xs.drop a).take (d - a) ++ (xs.drop a).drop (d - a) := (List.take_append_drop _ _).symm
  conv => lhs; rw [e1]
  rw [gG_app _ _ _ _ _ (by omega)]
  unfold spl
  rw [length_gG hf _ _ _ _ (by omega), hl, List.drop_drop]
end
theorem blkF_snoc {c e a : Nat} : ∀ (n j : Nat), blkF c e a (n + 1) j = blkF c e a n j ++ (if selB c e (j + n) = true then [a + 8 * (j + n)] else [])
  | 0, j => by simp [blkF]
  | n + 1, j => by
    rw [blkF, blkF_snoc n (j + 1), blkF, show j + 1 + n = j + (n + 1) by omega]
    split <;> rfl
theorem selB_selB2 (c s k : Nat) (h : c = 0 → s = 0) : selB c (c + s) k = selB2 (c : Int) (s : Int) k := by
  unfold selB selB2
  rw [Bool.eq_iff_iff]
  simp only [Bool.or_eq_true, decide_eq_true_eq]
  constructor
  · rintro (h1 | h1)
    · left; omega
    · right; exact_mod_cast h1
  · rintro (h1 | h1)
    · left; have := h (by omega); omega
    · right; exact_mod_cast h1
theorem blkF_blkN (c s a : Nat) (h : c = 0 → s = 0) : ∀ n, blkN (c : Int) (s : Int) (a : Int) n = (blkF c (c + s) a n 0).map fun q => ((q : Nat) : Int)
  | 0 => rfl
  | n + 1 => by
    rw [blkN, blkF_snoc, Nat.zero_add, selB_selB2 c s n h, blkF_blkN c s a h n]
    split
    · rw [List.map_append]; simp; omega
    · simp
def codG (m : Int) (c s : Nat) (back : Bool) (k v : List UInt8) (t : Nat) (x : List UInt8) : List UInt8 :=
  if m = 1 then xrL x (strL k v t x.length) else gG (stX back k) c (c + s) (x.length / 8) 0 v x
def codS (m : Int) (c s : Nat) (back : Bool) (k v b : List UInt8) (st : List UInt8 × Nat) (p : Int × Int) : List UInt8 × Nat :=
  (spl st.1 p.1.toNat (codG m c s back k v st.2 ((b.drop p.1.toNat).take (p.2.toNat - p.1.toNat))), st.2 + (p.2.toNat - p.1.toNat))
def codK (m : Int) (c s : Nat) (back : Bool) (k v b : List UInt8) (P : List (Int × Int)) : List UInt8 × Nat := P.foldl (codS m c s back k v b) (b, 0)
theorem length_codG (m : Int) (c s : Nat) (back : Bool) (k v : List UInt8) (t : Nat) (x : List UInt8) : (codG m c s back k v t x).length = x.length := by
  unfold codG
  split
  · rw [length_xrL]
  · exact length_gG (length_stX back k) _ _ _ _ (by omega)
theorem codK_rest (m : Int) (c s : Nat) (back : Bool) (k v b : List UInt8) : ∀ (P : List (Int × Int)) (st : List UInt8 × Nat) (lo : Int), chainS lo P → 0 ≤ lo → (∀ p ∈ P, p.2 ≤ (b.length : Int)) → st.1.length = b.length → st.1.drop lo.toNat = b.drop lo.toNat →
    (P.foldl (codS m c s back k v b) st).1.length = b.length ∧ (P.foldl (codS m c s back k v b) st).1.drop (endSK lo P).toNat = b.drop (endSK lo P).toNat
  | [], _, _, _, _, _, h1, h2 => ⟨h1, h2⟩
  | p :: r, st, lo, ⟨c1, c2, c3⟩, h0, hm, h1, h2 => by
    have hp := hm p (by simp)
    have hl : (codG m c s back k v st.2 ((b.drop p.1.toNat).take (p.2.toNat - p.1.toNat))).length = p.2.toNat - p.1.toNat := by
      rw [length_codG, List.length_take, List.length_drop]; omega
    rw [List.foldl_cons]
    refine codK_rest m c s back k v b r _ p.2 c3 (by omega) (fun q hq => hm q (List.mem_cons_of_mem _ hq)) ?_ ?_
    · unfold codS; simp only; rw [length_spl _ _ _ (by rw [hl]; omega), h1]
    · unfold codS
      simp only
      have t2 := spl_drop st.1 p.1.toNat (codG m c s back k v st.2 ((b.drop p.1.toNat).take (p.2.toNat - p.1.toNat))) (by rw [hl]; omega)
      rw [hl, show p.1.toNat + (p.2.toNat - p.1.toNat) = p.2.toNat by omega] at t2
      rw [t2]
      have e : p.2.toNat = lo.toNat + (p.2.toNat - lo.toNat) := by omega
      rw [e, ← List.drop_drop, h2, List.drop_drop]
theorem xr_step (k v b out : List UInt8) (a t j : Nat) (h : a + j < b.length) (hl : out.length = b.length) :
    (spl out a (xrL ((b.drop a).take j) (strL k v t j))).set (a + j) (b.getD (a + j) 0 ^^^ byteAt k v (t + j)) = spl out a (xrL ((b.drop a).take (j + 1)) (strL k v t (j + 1))) := by
  have l1 : ((b.drop a).take j).length = j := by rw [List.length_take, List.length_drop]; omega
  have l2 : ((b.drop a).take (j + 1)).length = j + 1 := by rw [List.length_take, List.length_drop]; omega
  have g : ∀ q, q < j + 1 → ∀ n, q < n → ((b.drop a).take n).getD q 0 = b.getD (a + q) 0 := fun q hq n hn => by
    simp only [List.getD_eq_getElem?_getD, List.getElem?_take, List.getElem?_drop, if_pos hn]
  have e1 : xrL ((b.drop a).take (j + 1)) (strL k v t (j + 1)) = xrL ((b.drop a).take j) (strL k v t j) ++ [b.getD (a + j) 0 ^^^ byteAt k v (t + j)] := by
    unfold xrL
    rw [l1, l2, List.range_succ, List.map_append]
    congr 1
    · apply List.map_congr_left
      intro q hq
      have hq' := List.mem_range.1 hq
      rw [g q (by omega) _ (by omega), g q (by omega) _ (by omega), strL_get _ _ _ _ _ (by omega), strL_get _ _ _ _ _ (by omega)]
    · simp only [List.map_cons, List.map_nil]
      rw [g j (by omega) _ (by omega), strL_get _ _ _ _ _ (by omega)]
  rw [e1]
  have l3 : (xrL ((b.drop a).take j) (strL k v t j)).length = j := by rw [length_xrL, l1]
  generalize xrL ((b.drop a).take j) (strL k v t j) = X at *
  unfold spl
  rw [List.length_append, l3]
  have l4 : (out.take a).length = a := by rw [List.length_take]; omega
  rw [List.set_append, if_neg (by omega), l4, show a + j - a = j by omega, List.set_append, if_neg (by omega), l3, Nat.sub_self, List.drop_eq_getElem_cons (show a + j < out.length by omega), List.set_cons_zero, List.append_assoc]
  rfl
def codF (m c s : Int) (n1 n2 n : Nat) (l : List (Int × Int)) : Int := if schF m c s ≠ 0 then schF m c s else if modeF n1 n2 n ≠ 0 then modeF n1 n2 n else listF l (n : Int)
theorem first2_any {b off : Nat} {x y : Int} {w : World} (h0 : w.cell? ⟨b, off, none⟩ = some (.int .i64 x)) (h1 : w.cell? ⟨b, off + 1, none⟩ = some (.int .i64 y)) :
    Calls Try.prog 38 #[.slice (some ⟨b, off, none⟩) 2 2] w fun e w' => e = .returned (.int .i64 (if x ≠ 0 then x else y)) ∧ w = w' := by
  have HR : Hid (x = 0 → (if x ≠ 0 then x else y) = y) := hide (fun h => by rw [if_neg (by simpa using h)])
  have HS : Hid (x ≠ 0 → (if x ≠ 0 then x else y) = x) := hide (fun h => by rw [if_pos h])
  generalize (if x ≠ 0 then x else y) = r at *
  go_enter Try.func38, Try.ntmps38
  go_wp2_with fail
  go_loop [7] (fun ri => ri = .int .i64 0 ∨ (ri = .int .i64 1 ∧ Hid (x = 0)) ∨ (ri = .int .i64 2 ∧ Hid (x = 0) ∧ Hid (y = 0))) (fun ri => 2 - (intOf ri).toNat)
  case atStart => exact .inl rfl
  case round =>
    rcases hrel with rfl | ⟨rfl, HX⟩ | ⟨rfl, HX, HY⟩
    · by_cases hx : x = 0
      · have i1 : (x != 0) = false := by simp [hx]
        have HX := hide hx
        clear hx
        go_wp2
        go_round
        case rel => exact .inr (.inl ⟨rfl, HX⟩)
        case measure => simp [intOf]
      · have i1 : (x != 0) = true := by simp [hx]
        have HQ := hide (HS.out hx)
        clear hx
        go_wp2
        go_ret
        exact ⟨ret_int HQ.out.symm, rfl⟩
    · by_cases hy : y = 0
      · have i1 : (y != 0) = false := by simp [hy]
        have HY := hide hy
        clear hy
        go_wp2
        go_round
        case rel => exact .inr (.inr ⟨rfl, HX, HY⟩)
        case measure => simp [intOf]
      · have i1 : (y != 0) = true := by simp [hy]
        have HQ := hide (HR.out HX.out)
        clear hy
        go_wp2
        go_ret
        exact ⟨ret_int HQ.out.symm, rfl⟩
    · have HQ := hide ((HR.out HX.out).trans HY.out)
      go_wp2
      go_ret
      exact ⟨ret_int HQ.out.symm, rfl⟩
def OnePost (back : Bool) (w : World) (base g N C off : Nat) (k last xs : List UInt8) (e : Ending) (w' : World) : Prop :=
  ∃ A' c', e = .returned (.slice A' 8 c') ∧ At w' 1 e8 A' 8 c' (stX back k ((xs.drop off).take 8) last).2 ∧
    Own w' base 5 1 e8 (.slice (some ⟨g, 0, none⟩) N C) (spl xs off (stX back k ((xs.drop off).take 8) last).1) ∧ w.grownBy w' (some g)
def oneF (back : Bool) : Nat := if back = true then 30 else 19
theorem one_any (back : Bool) {A1 A2 : Option Addr} {c1 c2 : Nat} {k last xs : List UInt8} {w : World} {base g N C off : Nat} (h1 : At w 1 e8 A1 16 c1 k) (h2 : At w 1 e8 A2 8 c2 last)
    (ho : Own w base 5 1 e8 (.slice (some ⟨g, 0, none⟩) N C) xs) (hoff : off + 8 ≤ N) :
    Calls Try.prog (oneF back) #[.slice A1 16 c1, .slice A2 8 c2, .slice (some ⟨g, off, none⟩) (N - off) (C - off)] w (OnePost back w base g N C off k last xs) := by
  have hxl := ho.len len_e8
  cases back with
  | false =>
    refine (chain_own h1 h2 ho hoff).mono fun e w' ⟨he, o4, g4⟩ => ?_
    refine ⟨_, _, he, ?_, o4, g4⟩
    have hat := ho.atS len_e8
    have hle := hat.le
    have q := ((o4.atS len_e8).cutAt (k := off) (by omega) (by omega)).upto (k := 8) (by omega)
    rw [Nat.mul_one, Nat.zero_add] at q
    have hl8 : (encB k (xor8 ((xs.drop off).take 8) last)).length = 8 := rfl
    have e8' := spl_mid xs off (encB k (xor8 ((xs.drop off).take 8) last)) (by rw [hl8]; omega)
    rw [hl8] at e8'
    rw [e8'] at q
    exact q
  | true =>
    refine (unchain_own h1 h2 ho hoff).mono fun e w' h => ?_
    obtain ⟨A', c', he, ha, _, hO, hg⟩ := h
    exact ⟨A', c', he, ha, hO, hg⟩
structure CodSt (w wr : World) (Ao : Option Addr) (g gs n C : Nat) (m c s : Int) (A1 : Option Addr) (c1 : Nat) (k v : List UInt8) (Ap : Option Addr) (np cp : Nat) (P : List (Int × Int)) (t : Nat) (xs : List UInt8) : Prop where
  own : Own wr w.heap.size 5 1 e8 (.slice Ao n C) xs
  ho : Ao = some ⟨g, 0, none⟩ ∨ Ao = none
  str : m = 1 → StreamAt wr gs (.slice A1 16 c1) k v t
  parts : At wr 2 e2 Ap np cp P
  box : Blk wr w.heap.size 27 #[.int .i64 m, .int .i64 c, .int .i64 s]
  ext : Ext w wr
  away : ∀ a, Ap = some a → a.block ≠ g ∧ a.block ≠ gs
  gw : w.heap.size < g ∧ w.heap.size < gs ∧ g ≠ gs
section
variable {w wr w' : World} {Ao : Option Addr} {g gs n C : Nat} {m c s : Int} {A1 : Option Addr} {c1 : Nat} {k v : List UInt8} {Ap : Option Addr} {np cp : Nat} {P : List (Int × Int)} {t : Nat} {xs : List UInt8}
theorem CodSt.next (h : CodSt w wr Ao g gs n C m c s A1 c1 k v Ap np cp P t xs) (he : Ext wr w') : CodSt w w' Ao g gs n C m c s A1 c1 k v Ap np cp P t xs :=
  ⟨h.own.ext he, h.ho, fun hm => (h.str hm).ext he, h.parts.ext he, h.box.ext he, Ext.trans h.ext he, h.away, h.gw⟩
theorem CodSt.wrote (h : CodSt w wr Ao g gs n C m c s A1 c1 k v Ap np cp P t xs) {ys : List UInt8} (ho : Own w' w.heap.size 5 1 e8 (.slice Ao n C) ys) (hg : wr.grownBy w' (some g)) : CodSt w w' Ao g gs n C m c s A1 c1 k v Ap np cp P t ys :=
  ⟨ho, h.ho, fun hm => by
      obtain ⟨blk, r, hB, hr⟩ := h.str hm
      exact ⟨blk, r, hB.grown hg (by have := h.gw; intro e; injection e with e; omega), hr⟩,
   h.parts.grown hg (fun a ha => by have := (h.away a ha).1; intro e; injection e with e; omega),
   h.box.grown hg (by have := h.gw; intro e; injection e with e; omega),
   Below.grown h.ext hg h.ext.size (fun q e => by injection e with e; have := h.gw; omega), h.away, h.gw⟩
theorem CodSt.some_ (h : CodSt w wr Ao g gs n C m c s A1 c1 k v Ap np cp P t xs) (hn : 0 < n) : Ao = some ⟨g, 0, none⟩ := by
  rcases h.ho with e | e
  · exact e
  · have ha := h.own.atS len_e8
    have := ha.none_ e
    have := ha.le
    omega
theorem CodSt.took (h : CodSt w wr Ao g gs n C m c s A1 c1 k v Ap np cp P t xs) {t' : Nat} (hs : StreamAt w' gs (.slice A1 16 c1) k v t') (hg : wr.grownBy w' (some gs)) : CodSt w w' Ao g gs n C m c s A1 c1 k v Ap np cp P t' xs :=
  ⟨h.own.kept hg (by
      rcases h.ho with e | e
      · right; rw [e]; have := h.gw; simp [Value.ownBlock]; omega
      · left; rw [e]; rfl), h.ho, fun _ => hs,
   h.parts.grown hg (fun a ha => by have := (h.away a ha).2; intro e; injection e with e; omega),
   h.box.grown hg (by have := h.gw; intro e; injection e with e; omega),
   Below.grown h.ext hg h.ext.size (fun q e => by injection e with e; have := h.gw; omega), h.away, h.gw⟩
end
theorem codF_zero {m c s : Int} {n1 n2 n : Nat} {l : List (Int × Int)} (h : codF m c s n1 n2 n l = 0) : schF m c s = 0 ∧ modeF n1 n2 n = 0 ∧ listF l (n : Int) = 0 := by
  unfold codF at h
  split at h
  · rename_i h2; exact absurd h h2
  · rename_i h2
    split at h
    · rename_i h3; exact absurd h h3
    · rename_i h3
      exact ⟨Classical.not_not.1 h2, Classical.not_not.1 h3, h⟩
set_option maxRecDepth 100000 in
set_option maxHeartbeats 2000000 in
theorem keyCoded_bad (back : Bool) {A1 A2 A3 A4 : Option Addr} {c1 c2 c3 c4 n1 n2 n n4 : Nat} {l : List (Int × Int)} {m c s : Int} {w : World} (h4 : At w 2 e2 A4 n4 c4 l) (hF : codF m c s n1 n2 n l ≠ 0) :
    Calls Try.prog 18 #[schV m c s, .slice A1 n1 c1, .slice A2 n2 c2, .slice A3 n c3, .slice A4 n4 c4, .func (Fn.func (oneF back)) #[] #[]] w fun e w' => e = .returned (.tuple #[.slice none 0 0, .int .i64 (codF m c s n1 n2 n l)]) ∧ Ext w w' := by
  have HC := hide (fun W => keyScheme_any m c s W)
  have HM := hide (fun W => modeFault_bad A1 A2 A3 n1 n2 c1 c2 n c3 W)
  have HL := hide (fun W (hx : Ext w W) => keyList_any (h4.ext hx) (n : Int))
  have hdef : codF m c s n1 n2 n l = if schF m c s ≠ 0 then schF m c s else if modeF n1 n2 n ≠ 0 then modeF n1 n2 n else listF l (n : Int) := rfl
  generalize codF m c s n1 n2 n l = R at *
  generalize schF m c s = r1 at *
  generalize modeF n1 n2 n = r2 at *
  generalize listF l (n : Int) = r3 at *
  by_cases hr : (if r1 ≠ 0 then r1 else r2) = 0
  · have hR : R = r3 := by
      rw [hdef]
      by_cases h1 : r1 = 0
      · rw [if_neg (by simpa using h1)] at hr ⊢
        rw [if_neg (by simpa using hr)]
      · rw [if_pos h1] at hr; exact absurd hr h1
    have HR := hide hR
    have hb : (r3 != 0) = true := by rw [bne_iff_ne, ← hR]; exact hF
    have HZ := hide hr
    clear hdef hF hR hr h4
    go_enter Try.func18, Try.ntmps18
    go_wp2_with (first | ((go_at_call 39; refine (HC.out _).mono ?_); rintro e w1 ⟨rfl, e1⟩; have E1 := hide (Ext.trans (Ext.alloc w (.cells #[.int .i64 m, .int .i64 c, .int .i64 s] 27)) e1); clear e1) | ((go_at_call 40; refine (HM.out _).mono ?_); rintro e w' ⟨rfl, rfl⟩))
    refine (first2_any (x := r1) (y := r2) ((Blk.new w1 _ _).cell 0) ((Blk.new w1 _ _).cell 1)).mono ?_
    rintro e w' ⟨rfl, rfl⟩
    rw [HZ.out]
    go_wp2_with fail
    refine (HL.out _ (Ext.trans E1.out (Ext.alloc _ _))).mono ?_
    rintro e w3 ⟨rfl, e3⟩
    have E3 := hide (Ext.trans (Ext.trans E1.out (Ext.alloc _ _)) e3)
    clear e3
    go_wp2
    go_ret2
    exact ⟨by rw [HR.out]; rfl, E3.out⟩
  · have hR : R = if r1 ≠ 0 then r1 else r2 := by
      rw [hdef]
      by_cases h1 : r1 = 0
      · rw [if_neg (by simpa using h1)] at hr ⊢
        rw [if_pos hr, if_neg (by simpa using h1)]
      · rw [if_pos h1, if_pos h1]
    have HR := hide hR
    have hb : ((if r1 ≠ 0 then r1 else r2) != 0) = true := by rw [bne_iff_ne]; exact hr
    have HFI := hide (fun (b off : Nat) (W : World) (h0 : W.cell? ⟨b, off, none⟩ = some (.int .i64 r1)) (h1 : W.cell? ⟨b, off + 1, none⟩ = some (.int .i64 r2)) => first2_any h0 h1)
    generalize (if r1 ≠ 0 then r1 else r2) = r4 at *
    clear hdef hF hR hr h4
    go_enter Try.func18, Try.ntmps18
    go_wp2_with (first | ((go_at_call 39; refine (HC.out _).mono ?_); rintro e w1 ⟨rfl, e1⟩; have E1 := hide (Ext.trans (Ext.alloc w (.cells #[.int .i64 m, .int .i64 c, .int .i64 s] 27)) e1); clear e1) | ((go_at_call 40; refine (HM.out _).mono ?_); rintro e w' ⟨rfl, rfl⟩))
    refine (HFI.out _ _ _ ((Blk.new w1 _ _).cell 0) ((Blk.new w1 _ _).cell 1)).mono ?_
    rintro e w' ⟨rfl, rfl⟩
    go_wp2
    go_ret2
    exact ⟨by rw [HR.out]; rfl, Ext.trans E1.out (Ext.alloc _ _)⟩
end Go.Proofs.Ytkbmgakehlmcnaa
