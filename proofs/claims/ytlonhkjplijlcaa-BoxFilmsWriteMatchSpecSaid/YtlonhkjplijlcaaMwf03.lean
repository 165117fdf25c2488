/- Several texts in one: The memory in which chunks are laid: an array of rows of numbers, rows of numbers beside it, a row of bytes. No condition; Boxes in plain words: trees, kinds, numbers, how bytes are read as boxes. Plain; Numbers as bytes, the greatest first. Plain; Walks: numbers out of bytes, kinds (program). Conditions as stated. -/
import Derived.Test.YtlonhkjplijlcaaMwf02
import Derived.Test.YtlonhkjplijlcaaMwf01
import Init
namespace Go.Proofs.Ytlonhkjplijlcaa
open Go.RowKit
/-- The slice of a row within an array. -/
abbrev rwV (h : Option Addr × Nat × Nat) : Value := .slice h.1 h.2.1 h.2.2
abbrev dR : Option Addr × Nat × Nat := (none, 0, 0)
abbrev dI : Nat × List Int := (0, [])
structure LaM (w0 W : World) (gp m : Nat) (hs : List (Option Addr × Nat × Nat)) (pl : List (List Int)) (S : List (Nat × List Int)) (v : Value) (out : List UInt8) : Prop where
  ext : Ext w0 W
  pls : Own W w0.heap.size 70 1 eB1 (.slice (some ⟨gp, 0, none⟩) m m) hs
  plen : pl.length = m
  rows : ∀ i, i < m → Own W w0.heap.size 3 1 e64 (rwV (hs.getD i dR)) (pl.getD i [])
  ints : ∀ j, j < S.length → Own W w0.heap.size 3 1 e64 (.slice (some ⟨(S.getD j dI).1, 0, none⟩) m m) (S.getD j dI).2
  out_ : Own W w0.heap.size 5 1 e8 v out
  a1 : ∀ j, j < S.length → (S.getD j dI).1 ≠ gp
  a2 : ∀ j k, j < S.length → k < S.length → j ≠ k → (S.getD j dI).1 ≠ (S.getD k dI).1
  a3 : ∀ i, i < m → ∀ g, (rwV (hs.getD i dR)).ownBlock = some g → g ≠ gp ∧ (∀ j, j < S.length → (S.getD j dI).1 ≠ g) ∧ v.ownBlock ≠ some g ∧ ∀ k, k < m → k ≠ i → (rwV (hs.getD k dR)).ownBlock ≠ some g
  a4 : ∀ g, v.ownBlock = some g → g ≠ gp ∧ ∀ j, j < S.length → (S.getD j dI).1 ≠ g
section
variable {w0 W : World} {gp m : Nat} {hs : List (Option Addr × Nat × Nat)} {pl : List (List Int)} {S : List (Nat × List Int)} {v : Value} {out : List UInt8}
theorem LaM.extW (h : LaM w0 W gp m hs pl S v out) {W' : World} (he : Ext W W') : LaM w0 W' gp m hs pl S v out :=
  ⟨Ext.trans h.ext he, h.pls.ext he, h.plen, fun i hi => (h.rows i hi).ext he, fun j hj => (h.ints j hj).ext he, h.out_.ext he, h.a1, h.a2, h.a3, h.a4⟩
theorem LaM.hlen (h : LaM w0 W gp m hs pl S v out) : hs.length = m := (h.pls.atS len_eB1).len
theorem LaM.slt (h : LaM w0 W gp m hs pl S v out) {j : Nat} (hj : j < S.length) : w0.heap.size ≤ (S.getD j dI).1 ∧ (S.getD j dI).1 < W.heap.size := (h.ints j hj).lt _ rfl
theorem getD_set {α : Type} {l : List α} {i j : Nat} {x d : α} (hi : i < l.length) : (l.set i x).getD j d = if i = j then x else l.getD j d := by
  simp only [List.getD_eq_getElem?_getD, List.getElem?_set]
  by_cases hij : i = j
  · subst hij; simp [hi]
  · simp [hij]
/-- A number is stored in a row beside the array. -/
theorem LaM.setS (h : LaM w0 W gp m hs pl S v out) {j : Nat} (hj : j < S.length) (k : Nat) (x : Int) :
    LaM w0 (W.setCell ⟨(S.getD j dI).1, k, none⟩ (.int .i64 x)) gp m hs pl (S.set j ((S.getD j dI).1, (S.getD j dI).2.set k x)) v out := by
  have hT : Tw W (W.setCell ⟨(S.getD j dI).1, k, none⟩ (.int .i64 x)) (S.getD j dI).1 none := Tw.set_ _ _ _ _ _
  have hlt := h.slt hj
  have hblk : ∀ q, ((S.set j ((S.getD j dI).1, (S.getD j dI).2.set k x)).getD q dI).1 = (S.getD q dI).1 := fun q => by
    rw [getD_set hj]; split
    · subst_vars; rfl
    · rfl
  refine ⟨⟨hT.os.trans h.ext.os, hT.tape.trans h.ext.tape, hT.output.trans h.ext.output, Nat.le_trans h.ext.size hT.size, fun q hq => (hT.block q (Nat.lt_of_lt_of_le hq h.ext.size) (by omega) (by simp)).trans (h.ext.block q hq)⟩,
    h.pls.tw hT (fun e => by injection e with e; exact h.a1 j hj e.symm) (fun g _ e => by cases e), h.plen,
    fun i hi => (h.rows i hi).tw hT (fun e => (h.a3 i hi _ e).2.1 j hj rfl) (fun g _ e => by cases e), fun q hq => ?_,
    h.out_.tw hT (fun e => (h.a4 _ e).2 j hj rfl) (fun g _ e => by cases e), fun q hq => ?_, fun q r hq hr hne => ?_, fun i hi g hg => ?_, fun g hg => ?_⟩
  · rw [List.length_set] at hq
    rw [hblk, getD_set hj]
    by_cases hjq : j = q
    · subst hjq
      rw [if_pos rfl]
      exact (h.ints j hj).set1 len_e64 k x _ rfl
    · rw [if_neg hjq]
      exact (h.ints q hq).tw hT (fun e => by injection e with e; exact h.a2 q j hq hj (Ne.symm hjq) e) (fun g _ e => by cases e)
  · rw [List.length_set] at hq; rw [hblk]; exact h.a1 q hq
  · rw [List.length_set] at hq hr; rw [hblk, hblk]; exact h.a2 q r hq hr hne
  · obtain ⟨b1, b2, b3, b4⟩ := h.a3 i hi g hg
    exact ⟨b1, fun q hq => by rw [List.length_set] at hq; rw [hblk]; exact b2 q hq, b3, b4⟩
  · obtain ⟨b1, b2⟩ := h.a4 g hg
    exact ⟨b1, fun q hq => by rw [List.length_set] at hq; rw [hblk]; exact b2 q hq⟩
/-- A number is put behind a row of the array, and the row is stored anew. -/
theorem LaM.app (h : LaM w0 W gp m hs pl S v out) {i : Nat} (hi : i < m) {Wa W6 : World} {x : Int} {A : Option Addr} {n c : Nat} (he : Ext W Wa) (ho : Own W6 w0.heap.size 3 1 e64 (.slice A n c) (pl.getD i [] ++ [x]))
    (hg : Wa.grownBy W6 (rwV (hs.getD i dR)).ownBlock) (hr : (Value.slice A n c).ownBlock = (rwV (hs.getD i dR)).ownBlock ∨ (Value.slice A n c).ownBlock = some Wa.heap.size) :
    LaM w0 (W6.setCell ⟨gp, i, none⟩ (.slice A n c)) gp m (hs.set i (A, n, c)) (pl.set i (pl.getD i [] ++ [x])) S v out := by
  have hl := h.hlen
  have hpl := h.plen
  have s1 := he.size
  have s2 := hg.size
  have hT : Tw W6 (W6.setCell ⟨gp, i, none⟩ (.slice A n c)) gp none := Tw.set_ _ _ _ _ _
  have hTg : Tw Wa W6 Wa.heap.size (rwV (hs.getD i dR)).ownBlock := Tw.of_grown hg
  have hgp := h.pls.lt gp rfl
  have far : ∀ {α : Type} {t : TypeId} {sz : Nat} {enc : α → List Value} {u : Value} {xs : List α}, Own W w0.heap.size t sz enc u xs → (∀ g, u.ownBlock = some g → (rwV (hs.getD i dR)).ownBlock ≠ some g) → Own W6 w0.heap.size t sz enc u xs := fun hu hne =>
    (hu.ext he).tw hTg (fun e => by have := (hu.lt _ e).2; omega) (fun g hg2 e => hne g hg2 e)
  have hne : ∀ g, (Value.slice A n c).ownBlock = some g → g ≠ gp ∧ (∀ j, j < S.length → (S.getD j dI).1 ≠ g) ∧ v.ownBlock ≠ some g ∧ ∀ k, k < m → k ≠ i → (rwV (hs.getD k dR)).ownBlock ≠ some g := fun g hg2 => by
    rcases hr with hr | hr
    · exact h.a3 i hi g (by rw [← hr]; exact hg2)
    · rw [hr] at hg2
      injection hg2 with hg2
      subst hg2
      refine ⟨by omega, fun j hj => ?_, fun e => ?_, fun k hk _ e => ?_⟩
      · have := (h.slt hj).2; omega
      · have := (h.out_.lt _ e).2; omega
      · have := ((h.rows k hk).lt _ e).2; omega
  have hnb : (Value.slice A n c).ownBlock ≠ some gp := fun e => (hne gp e).1 rfl
  have e6 : Ext w0 W6 := by
    refine ⟨hg.os.trans (he.os.trans h.ext.os), hg.tape.trans (he.tape.trans h.ext.tape), hg.output.trans (he.output.trans h.ext.output), Nat.le_trans h.ext.size (Nat.le_trans s1 s2), fun q hq => ?_⟩
    have h1 := h.ext.size
    exact (hg.block q (by omega) (fun e => by have := (h.rows i hi).lt q e.symm; omega)).trans ((he.block q (by omega)).trans (h.ext.block q hq))
  refine ⟨⟨hT.os.trans e6.os, hT.tape.trans e6.tape, hT.output.trans e6.output, Nat.le_trans e6.size hT.size, fun q hq => (hT.block q (Nat.lt_of_lt_of_le hq e6.size) (by omega) (by simp)).trans (e6.block q hq)⟩,
    (far h.pls (fun g e e2 => by injection e with e; exact (h.a3 i hi g e2).1 e.symm)).set1 len_eB1 i (A, n, c) _ rfl, by rw [List.length_set, hpl], fun k hk => ?_, fun j hj => ?_, ?_, h.a1, h.a2, fun k hk g hg2 => ?_, fun g hg2 => ?_⟩
  · rw [getD_set (by omega), getD_set (by omega)]
    by_cases hik : i = k
    · subst hik
      rw [if_pos rfl, if_pos rfl]
      exact ho.tw hT hnb (fun g _ e => by cases e)
    · rw [if_neg hik, if_neg hik]
      exact (far (h.rows k hk) (fun g e e2 => (h.a3 i hi g e2).2.2.2 k hk (Ne.symm hik) e)).tw hT (fun e => (h.a3 k hk _ e).1 rfl) (fun g _ e => by cases e)
  · exact (far (h.ints j hj) (fun g e e2 => by injection e with e; exact (h.a3 i hi g e2).2.1 j hj e)).tw hT (fun e => by injection e with e; exact h.a1 j hj e) (fun g _ e => by cases e)
  · exact (far h.out_ (fun g e e2 => (h.a3 i hi g e2).2.2.1 e)).tw hT (fun e => (h.a4 _ e).1 rfl) (fun g _ e => by cases e)
  · rw [getD_set (by omega)] at hg2
    by_cases hik : i = k
    · subst hik
      rw [if_pos rfl] at hg2
      obtain ⟨b1, b2, b3, b4⟩ := hne g hg2
      refine ⟨b1, b2, b3, fun q hq hqi => ?_⟩
      rw [getD_set (by omega), if_neg (Ne.symm hqi)]
      exact b4 q hq hqi
    · rw [if_neg hik] at hg2
      obtain ⟨b1, b2, b3, b4⟩ := h.a3 k hk g hg2
      refine ⟨b1, b2, b3, fun q hq hqk => ?_⟩
      rw [getD_set (by omega)]
      by_cases hiq : i = q
      · rw [if_pos hiq]
        intro e
        have e2 : (Value.slice A n c).ownBlock = some g := e
        exact (hne g e2).2.2.2 k hk (Ne.symm hik) hg2
      · rw [if_neg hiq]; exact b4 q hq hqk
  · exact h.a4 g hg2
/-- Bytes are put behind the row of bytes. -/
theorem LaM.appOut (h : LaM w0 W gp m hs pl S v out) {Wa W6 : World} {v' : Value} {out' : List UInt8} (he : Ext W Wa) (ho : Own W6 w0.heap.size 5 1 e8 v' out')
    (hg : Wa.grownBy W6 v.ownBlock) (hr : v'.ownBlock = v.ownBlock ∨ v'.ownBlock = some Wa.heap.size) : LaM w0 W6 gp m hs pl S v' out' := by
  have s1 := he.size
  have s2 := hg.size
  have hTg : Tw Wa W6 Wa.heap.size v.ownBlock := Tw.of_grown hg
  have hgp := h.pls.lt gp rfl
  have far : ∀ {α : Type} {t : TypeId} {sz : Nat} {enc : α → List Value} {u : Value} {xs : List α}, Own W w0.heap.size t sz enc u xs → (∀ g, u.ownBlock = some g → v.ownBlock ≠ some g) → Own W6 w0.heap.size t sz enc u xs := fun hu hne =>
    (hu.ext he).tw hTg (fun e => by have := (hu.lt _ e).2; omega) (fun g hg2 e => hne g hg2 e)
  have e6 : Ext w0 W6 := by
    refine ⟨hg.os.trans (he.os.trans h.ext.os), hg.tape.trans (he.tape.trans h.ext.tape), hg.output.trans (he.output.trans h.ext.output), Nat.le_trans h.ext.size (Nat.le_trans s1 s2), fun q hq => ?_⟩
    have h1 := h.ext.size
    exact (hg.block q (by omega) (fun e => by have := h.out_.lt q e.symm; omega)).trans ((he.block q (by omega)).trans (h.ext.block q hq))
  refine ⟨e6, far h.pls (fun g e e2 => by injection e with e; exact (h.a4 g e2).1 e.symm), h.plen, fun i hi => far (h.rows i hi) (fun g e => (h.a3 i hi g e).2.2.1), fun j hj => far (h.ints j hj) (fun g e e2 => by injection e with e; exact (h.a4 g e2).2 j hj e), ho, h.a1, h.a2, fun i hi g hg2 => ?_, fun g hg2 => ?_⟩
  · obtain ⟨b1, b2, b3, b4⟩ := h.a3 i hi g hg2
    refine ⟨b1, b2, fun e => ?_, b4⟩
    rcases hr with hr | hr
    · exact b3 (by rw [← hr]; exact e)
    · rw [hr] at e; injection e with e; have := ((h.rows i hi).lt g hg2).2; omega
  · rcases hr with hr | hr
    · exact h.a4 g (by rw [← hr]; exact hg2)
    · rw [hr] at hg2
      injection hg2 with hg2
      subst hg2
      exact ⟨by omega, fun j hj => by have := (h.slt hj).2; omega⟩
end
end Go.Proofs.Ytlonhkjplijlcaa
namespace Go.Proofs.Ytlonhkjplijlcaa
/-- A box. -/
inductive BoxT where
  | mk (kind : List UInt8) (form : Int) (data : List UInt8) (kids : List BoxT)
def BoxT.kind : BoxT → List UInt8 | .mk k _ _ _ => k
def BoxT.form : BoxT → Int | .mk _ f _ _ => f
def BoxT.data : BoxT → List UInt8 | .mk _ _ d _ => d
def BoxT.kids : BoxT → List BoxT | .mk _ _ _ l => l
theorem kids_lt (x : BoxT) : SizeOf.sizeOf x.kids < SizeOf.sizeOf x := by
  cases x with
  | mk k f d l => simp only [BoxT.kids, BoxT.mk.sizeOf_spec]; omega
theorem elem_lt {l : List BoxT} {x : BoxT} (h : x ∈ l) : SizeOf.sizeOf x < SizeOf.sizeOf l := List.sizeOf_lt_of_mem h
/-- The number that bytes are. -/
def numB (l : List UInt8) : Nat := l.foldl (fun n c => n * 256 + c.toNat) 0
theorem numB_snoc (l : List UInt8) (c : UInt8) : numB (l ++ [c]) = numB l * 256 + c.toNat := by
  unfold numB; rw [List.foldl_append]; rfl
theorem numB_take {l : List UInt8} {k : Nat} (h : k < l.length) : numB (l.take (k + 1)) = numB (l.take k) * 256 + l[k].toNat := by
  rw [List.take_succ_eq_append_getElem h, numB_snoc]
theorem numB_lt : ∀ (n : Nat) (l : List UInt8), l.length = n → numB l < 256 ^ n
  | 0, l, h => by
    have := List.eq_nil_of_length_eq_zero h
    subst this
    decide
  | n + 1, l, h => by
    have hn : n < l.length := by omega
    have e : l = l.take n ++ [l[n]] := by
      conv => lhs; rw [← List.take_append_drop n l]
      congr 1
      rw [List.drop_eq_getElem_cons hn, List.drop_of_length_le (by omega)]
    have ih := numB_lt n (l.take n) (by rw [List.length_take]; omega)
    rw [e, numB_snoc]
    have := (l[n]).toNat_lt
    rw [Nat.pow_succ]
    omega
/-- A byte of a kind. -/
def kindC (c : UInt8) : Bool := (48 ≤ c.toNat && c.toNat ≤ 57) || (97 ≤ c.toNat && c.toNat ≤ 122)
def isKindB (l : List UInt8) : Bool := decide (l.length = 4) && l.all kindC
def kFilm : List UInt8 := [102, 105, 108, 109]
def kTrck : List UInt8 := [116, 114, 99, 107]
def kFrag : List UInt8 := [102, 114, 97, 103]
def hasKidsB (l : List UInt8) : Bool := l == kFilm || l == kTrck || l == kFrag
/-- A box in its place. -/
inductive NodeT where
  | mk (kind : List UInt8) (form : Int) (beg dat en : Nat) (kids : List NodeT)
def NodeT.kind : NodeT → List UInt8 | .mk k _ _ _ _ _ => k
def NodeT.form : NodeT → Int | .mk _ f _ _ _ _ => f
def NodeT.beg : NodeT → Nat | .mk _ _ b _ _ _ => b
def NodeT.dat : NodeT → Nat | .mk _ _ _ d _ _ => d
def NodeT.en : NodeT → Nat | .mk _ _ _ _ e _ => e
def NodeT.kids : NodeT → List NodeT | .mk _ _ _ _ _ l => l
/-- Some bytes. -/
def cutB (b : List UInt8) (i j : Nat) : List UInt8 := (b.drop i).take (j - i)
mutual
def boxOf (b : List UInt8) : NodeT → BoxT
  | .mk k f _ d e l => .mk k f (if hasKidsB k = true then [] else cutB b d e) (boxesOf b l)
def boxesOf (b : List UInt8) : List NodeT → List BoxT
  | [] => []
  | x :: r => boxOf b x :: boxesOf b r
end
theorem boxesOf_map (b : List UInt8) : ∀ l, boxesOf b l = l.map (boxOf b)
  | [] => by rw [boxesOf]; rfl
  | x :: r => by rw [boxesOf, boxesOf_map b r]; rfl
/-- The head of a box: its kind, its form, where its contents begin and where it ends. -/
def headF (kind : List UInt8) (form : Int) (from_ left dat size : Nat) : Option (List UInt8 × Int × Nat × Nat) :=
  if isKindB kind = true ∧ dat - from_ ≤ size ∧ size ≤ left then some (kind, form, dat, from_ + size) else none
def headP (b : List UInt8) (from_ to : Nat) : Option (List UInt8 × Int × Nat × Nat) :=
  if to - from_ < 8 then none
  else if numB (cutB b from_ (from_ + 4)) = 1 then
    if to - from_ < 16 then none else headF (cutB b (from_ + 4) (from_ + 8)) 1 from_ (to - from_) (from_ + 16) (numB (cutB b (from_ + 8) (from_ + 16)))
  else if numB (cutB b from_ (from_ + 4)) = 0 then headF (cutB b (from_ + 4) (from_ + 8)) 2 from_ (to - from_) (from_ + 8) (to - from_)
  else headF (cutB b (from_ + 4) (from_ + 8)) 0 from_ (to - from_) (from_ + 8) (numB (cutB b from_ (from_ + 4)))
theorem headF_some {kind : List UInt8} {form : Int} {f left dat size : Nat} {r : List UInt8 × Int × Nat × Nat} (h : headF kind form f left dat size = some r) :
    r = (kind, form, dat, f + size) ∧ isKindB kind = true ∧ dat - f ≤ size ∧ size ≤ left := by
  unfold headF at h
  split at h
  · injection h with h; exact ⟨h.symm, by assumption⟩
  · cases h
theorem headP_some {b : List UInt8} {f to : Nat} {k : List UInt8} {fo : Int} {d e : Nat} (h : headP b f to = some (k, fo, d, e)) :
    f + 8 ≤ d ∧ d ≤ e ∧ e ≤ to ∧ isKindB k = true ∧ k = cutB b (f + 4) (f + 8) ∧ (fo = 0 ∨ fo = 1 ∨ fo = 2) := by
  unfold headP at h
  split at h
  · cases h
  · split at h
    · split at h
      · cases h
      · obtain ⟨e1, h1, h2, h3⟩ := headF_some h
        injection e1 with e1 e2; injection e2 with e2 e3; injection e3 with e3 e4
        subst e1 e2 e3 e4
        exact ⟨by omega, by omega, by omega, h1, rfl, by omega⟩
    · split at h
      · obtain ⟨e1, h1, h2, h3⟩ := headF_some h
        injection e1 with e1 e2; injection e2 with e2 e3; injection e3 with e3 e4
        subst e1 e2 e3 e4
        exact ⟨by omega, by omega, by omega, h1, rfl, by omega⟩
      · obtain ⟨e1, h1, h2, h3⟩ := headF_some h
        injection e1 with e1 e2; injection e2 with e2 e3; injection e3 with e3 e4
        subst e1 e2 e3 e4
        exact ⟨by omega, by omega, by omega, h1, rfl, by omega⟩
/-- What reading gives: boxes and how many were read, or where something is wrong. -/
inductive ParR where
  | ok (l : List NodeT) (count : Nat)
  | err (at_ : Nat) (f : Int)
def ParR.pre (l : List NodeT) : ParR → ParR
  | .ok r c => .ok (l ++ r) c
  | .err a f => .err a f
theorem pre_nil (r : ParR) : r.pre [] = r := by cases r <;> rfl
theorem pre_pre (l k : List NodeT) (r : ParR) : (r.pre k).pre l = r.pre (l ++ k) := by cases r <;> simp [ParR.pre]
/-- Reading the boxes from a place up to another one, within so many others; so many were read before. -/
def parP (b : List UInt8) : Nat → Nat → Nat → Nat → Nat → ParR
  | 0, _, _, _, count => .ok [] count
  | fuel + 1, f, to, depth, count =>
    if to ≤ f then .ok [] count
    else if 2000 < count + 1 ∨ 8 ≤ depth then .err f 2
    else match headP b f to with
      | none => .err f 10
      | some (k, fo, d, e) =>
        if hasKidsB k = true then
          match parP b fuel d e (depth + 1) (count + 1) with
          | .err a g => .err a g
          | .ok kids c => (parP b fuel e to depth c).pre [.mk k fo f d e kids]
        else (parP b fuel e to depth (count + 1)).pre [.mk k fo f d e []]
theorem parP_fuel (b : List UInt8) : ∀ (m n f to depth count : Nat), to - f < m → to - f < n → parP b m f to depth count = parP b n f to depth count
  | 0, _, _, _, _, _, h, _ => absurd h (Nat.not_lt_zero _)
  | m + 1, 0, _, _, _, _, _, h => absurd h (Nat.not_lt_zero _)
  | m + 1, n + 1, f, to, depth, count, hm, hn => by
    unfold parP
    split
    · rfl
    · split
      · rfl
      · cases hh : headP b f to with
        | none => rfl
        | some r =>
          obtain ⟨k, fo, d, e⟩ := r
          obtain ⟨h1, h2, h3, _⟩ := headP_some hh
          simp only
          rw [parP_fuel b m n d e (depth + 1) (count + 1) (by omega) (by omega)]
          rw [parP_fuel b m n e to depth (count + 1) (by omega) (by omega)]
          have hc : ∀ c, parP b m e to depth c = parP b n e to depth c := fun c => parP_fuel b m n e to depth c (by omega) (by omega)
          split
          · cases parP b n d e (depth + 1) (count + 1) with
            | err a g => rfl
            | ok kids c => simp only [hc]
          · rfl
def parF (b : List UInt8) (f to depth count : Nat) : ParR := parP b (to - f + 1) f to depth count
theorem parF_end {b : List UInt8} {f to depth count : Nat} (h : to ≤ f) : parF b f to depth count = .ok [] count := by
  unfold parF parP; rw [if_pos h]
theorem parF_large {b : List UInt8} {f to depth count : Nat} (h : f < to) (hc : 2000 < count + 1 ∨ 8 ≤ depth) : parF b f to depth count = .err f 2 := by
  unfold parF parP; rw [if_neg (by omega), if_pos hc]
theorem parF_none {b : List UInt8} {f to depth count : Nat} (h : f < to) (hc : ¬ (2000 < count + 1 ∨ 8 ≤ depth)) (hh : headP b f to = none) : parF b f to depth count = .err f 10 := by
  unfold parF parP; rw [if_neg (by omega), if_neg hc, hh]
theorem parF_leaf {b : List UInt8} {f to depth count : Nat} {k : List UInt8} {fo : Int} {d e : Nat} (h : f < to) (hc : ¬ (2000 < count + 1 ∨ 8 ≤ depth)) (hh : headP b f to = some (k, fo, d, e)) (hk : hasKidsB k = false) :
    parF b f to depth count = (parF b e to depth (count + 1)).pre [.mk k fo f d e []] := by
  obtain ⟨h1, h2, h3, _⟩ := headP_some hh
  conv => lhs; unfold parF parP
  rw [if_neg (by omega), if_neg hc, hh]
  simp only [hk, Bool.false_eq_true, if_false]
  unfold parF
  rw [parP_fuel b (to - f) (to - e + 1) e to depth (count + 1) (by omega) (by omega)]
theorem parF_kids {b : List UInt8} {f to depth count : Nat} {k : List UInt8} {fo : Int} {d e : Nat} (h : f < to) (hc : ¬ (2000 < count + 1 ∨ 8 ≤ depth)) (hh : headP b f to = some (k, fo, d, e)) (hk : hasKidsB k = true) :
    parF b f to depth count = match parF b d e (depth + 1) (count + 1) with
      | .err a g => .err a g
      | .ok kids c => (parF b e to depth c).pre [.mk k fo f d e kids] := by
  obtain ⟨h1, h2, h3, _⟩ := headP_some hh
  conv => lhs; unfold parF parP
  rw [if_neg (by omega), if_neg hc, hh]
  simp only [hk, if_true]
  unfold parF
  rw [parP_fuel b (to - f) (e - d + 1) d e (depth + 1) (count + 1) (by omega) (by omega)]
  cases parP b (e - d + 1) d e (depth + 1) (count + 1) with
  | err a g => rfl
  | ok kids c =>
    simp only
    rw [parP_fuel b (to - f) (to - e + 1) e to depth c (by omega) (by omega)]
end Go.Proofs.Ytlonhkjplijlcaa
namespace Go.Proofs.Ytlonhkjplijlcaa
/-- The last so many bytes of a number. -/
def beN : Nat → Nat → List UInt8
  | 0, _ => []
  | m + 1, n => beN m (n / 256) ++ [UInt8.ofNat n]
theorem beN_len : ∀ (m n : Nat), (beN m n).length = m
  | 0, _ => rfl
  | m + 1, n => by rw [beN, List.length_append, beN_len m]; rfl
theorem beN_step (n k many : Nat) (hk : k < many) : beN (many - k) (n / 256 ^ k) = beN (many - (k + 1)) (n / 256 ^ (k + 1)) ++ [UInt8.ofNat (n / 256 ^ k)] := by
  rw [show many - k = (many - (k + 1)) + 1 by omega, beN, Nat.div_div_eq_div_mul, Nat.pow_succ]
theorem beN_all (n many : Nat) : beN many n = beN (many - 0) (n / 256 ^ 0) := by simp
theorem beN_numB : ∀ (m n : Nat), n < 256 ^ m → numB (beN m n) = n
  | 0, n, h => by
    have : n = 0 := by simpa using h
    subst this; rfl
  | m + 1, n, h => by
    rw [beN, numB_snoc, beN_numB m (n / 256) (by rw [Nat.pow_succ] at h; exact Nat.div_lt_of_lt_mul (by rw [Nat.mul_comm]; exact h))]
    rw [UInt8.toNat_ofNat']
    omega
theorem numB_beN : ∀ (m : Nat) (l : List UInt8), l.length = m → beN m (numB l) = l
  | 0, l, h => by
    have := List.eq_nil_of_length_eq_zero h
    subst this; rfl
  | m + 1, l, h => by
    have e : l = l.take m ++ [l[m]] := by
      conv => lhs; rw [← List.take_append_drop m l]
      congr 1
      rw [List.drop_eq_getElem_cons (by omega), List.drop_of_length_le (by omega)]
    have h2 : numB l = numB (l.take m) * 256 + (l[m]).toNat := by
      conv => lhs; rw [e]
      exact numB_snoc _ _
    have hb := (l[m]).toNat_lt
    have hd : numB l / 256 = numB (l.take m) := by omega
    rw [beN, hd, numB_beN m (l.take m) (by rw [List.length_take]; omega)]
    conv => rhs; rw [e]
    congr 2
    apply UInt8.toNat_inj.1
    rw [UInt8.toNat_ofNat']
    omega
end Go.Proofs.Ytlonhkjplijlcaa
namespace Go.Proofs.Ytlonhkjplijlcaa
open Go.RowKit
theorem At.byte {w : World} {b off n c : Nat} {l : List UInt8} (h : At w 1 e8 (some ⟨b, off, none⟩) n c l) {k : Nat} (hk : k < l.length) : w.cell? ⟨b, off + k, none⟩ = some (B8 l[k]) := by
  have hl := h.len
  obtain ⟨b', off', e, hc⟩ := h.cells k _ (List.getElem?_eq_getElem hk)
  injection e with e
  injection e with e1 e2
  subst e1 e2
  have := hc 0 _ rfl
  simpa using this
theorem or8 (q c : Nat) (hq : q < 72057594037927936) (hc : c < 2 ^ 8) : bits .or .u64 ((q : Int) * 256) (c : Int) = ((q * 256 + c : Nat) : Int) := by
  have e : q <<< 8 + c = q <<< 8 ||| c := Nat.shiftLeft_add_eq_or_of_lt hc q
  rw [Nat.shiftLeft_eq, show (2 : Nat) ^ 8 = 256 from rfl] at e
  rw [show (q : Int) * 256 = ((q * 256 : Nat) : Int) by simp, u64_or_nat _ _ (by omega) (by omega), ← e]
set_option maxRecDepth 100000 in
set_option maxHeartbeats 1000000 in
theorem numberOf_any {A : Option Addr} {n c : Nat} {l : List UInt8} {w : World} (h : At w 1 e8 A n c l) (hn : n ≤ 8) :
    Calls Try.prog 56 #[.slice A n c] w fun e w' => e = .returned (.int .u64 (numB l)) ∧ w = w' := by
  have hl := h.len
  have H := hide h
  have HL := hide hl
  clear h hl
  go_enter Try.func56, Try.ntmps56
  go_wp2_with fail
  go_loop [3, 8] (fun rn ri => ∃ k : Nat, k ≤ n ∧ ri = .int .i64 k ∧ rn = .int .u64 (numB (l.take k))) (fun _ ri => n - (intOf ri).toNat)
  case atStart => exact ⟨0, by omega, rfl, rfl⟩
  case round =>
    obtain ⟨k, hk, rfl, rfl⟩ := hrel
    by_cases hlt : k < n
    · obtain ⟨b, off, rfl, _⟩ := H.out.addr (by omega)
      have hkl : k < l.length := by have := HL.out; omega
      have c1 := H.out.byte hkl
      have i1 : (k : Int) < (n : Int) := by omega
      have hst := numB_take hkl
      have hlt2 := numB_lt k (l.take k) (by rw [List.length_take]; omega)
      have hp : 256 ^ k ≤ 256 ^ 7 := Nat.pow_le_pow_right (by omega) (by omega)
      generalize numB (l.take k) = q at *
      have hb := (l[k]).toNat_lt
      have hq : q < 72057594037927936 := by omega
      clear hlt2 hp
      have HST := hide hst
      clear hst
      go_wp2_with fail
      rw [or8 q l[k].toNat hq hb]
      exact ⟨⟨k + 1, by omega, by go_num, by rw [HST.out]⟩, by simp [intOf]; omega⟩
    · obtain rfl : n = k := by omega
      have HE : Hid (l.take n = l) := hide (by rw [← HL.out, List.take_length])
      have i1 : ¬ (n : Int) < (n : Int) := by omega
      go_wp2_with fail
      go_ret
      exact ⟨by rw [HE.out]; rfl, rfl⟩
theorem digit_yes (c : UInt8) (h : 48 ≤ c.toNat ∧ c.toNat ≤ 57) (w : World) : Calls Try.prog 96 #[B8 c] w fun e w' => e = .returned (.bool true) ∧ w = w' := by
  obtain ⟨h1, h2⟩ := h
  have h3 : (48 : Int) ≤ (c.toNat : Int) := by omega
  have h4 : (c.toNat : Int) ≤ 57 := by omega
  go_enter Try.func96, Try.ntmps96
  go_wp2
  go_ret
  exact ⟨ret_bool (by first | rfl | (simp; omega)), rfl⟩
theorem digit_no (c : UInt8) (h : ¬ (48 ≤ c.toNat ∧ c.toNat ≤ 57)) (w : World) : Calls Try.prog 96 #[B8 c] w fun e w' => e = .returned (.bool false) ∧ w = w' := by
  by_cases h1 : 48 ≤ c.toNat
  · have h2 : (48 : Int) ≤ (c.toNat : Int) := by omega
    have h3 : ¬ (c.toNat : Int) ≤ 57 := by omega
    clear h h1
    go_enter Try.func96, Try.ntmps96
    go_wp2
    go_ret
    exact ⟨ret_bool (by first | rfl | (simp; omega)), rfl⟩
  · have h2 : ¬ (48 : Int) ≤ (c.toNat : Int) := by omega
    clear h h1
    go_enter Try.func96, Try.ntmps96
    go_wp2
    go_ret
    exact ⟨ret_bool (by first | rfl | (simp; omega)), rfl⟩
theorem all_take_succ {s : ByteArray} {k : Nat} (h : k < s.size) : (s.data.toList.take (k + 1)).all kindC = ((s.data.toList.take k).all kindC && kindC s[k]) := by
  have e : s.data.toList.take (k + 1) = s.data.toList.take k ++ [s[k]] := by
    rw [List.take_succ_eq_append_getElem (by simpa using h)]; rfl
  rw [e, List.all_append]; simp
theorem all_no {s : ByteArray} {k : Nat} (h : k < s.size) (hc : kindC s[k] = false) : s.data.toList.all kindC = false := by
  rw [List.all_eq_false]
  exact ⟨s[k], by show s.data[k] ∈ s.data.toList; simp, by simp [hc]⟩
set_option maxRecDepth 100000 in
set_option maxHeartbeats 2000000 in
theorem isKind_any (s : ByteArray) (w : World) (hs : s.size ≤ maxLen) :
    Calls Try.prog 97 #[.string s] w fun e w' => e = .returned (.bool (isKindB s.data.toList)) ∧ w = w' := by
  unfold maxLen at hs
  have hsz : s.data.toList.length = s.size := by simp
  by_cases h4 : s.size = 4
  rotate_left
  · have HV : Hid (isKindB s.data.toList = false) := hide (by unfold isKindB; rw [hsz]; simp [h4])
    have i1 : ((s.size : Int) != 4) = true := by simp; omega
    clear hsz
    go_enter Try.func97, Try.ntmps97
    go_wp2_with fail
    go_ret
    exact ⟨by rw [HV.out]; rfl, rfl⟩
  have i1 : ((s.size : Int) != 4) = false := by simp; omega
  have HY : Hid (s.data.toList.all kindC = true → isKindB s.data.toList = true) := hide (fun h => by unfold isKindB; rw [hsz, h]; simp [h4])
  have HN : Hid (s.data.toList.all kindC = false → isKindB s.data.toList = false) := hide (fun h => by unfold isKindB; rw [h]; simp)
  have HTK : Hid (s.data.toList.take s.size = s.data.toList) := hide (by rw [← hsz, List.take_length])
  clear hsz h4
  go_enter Try.func97, Try.ntmps97
  go_wp2_with fail
  go_loop [9] (fun ri => ∃ k : Nat, k ≤ s.size ∧ ri = .int .i64 k ∧ Hid ((s.data.toList.take k).all kindC = true)) (fun ri => s.size - (intOf ri).toNat)
  case atStart => exact ⟨0, by omega, rfl, hide (by simp)⟩
  case round =>
    obtain ⟨k, hk, rfl, HA⟩ := hrel
    by_cases hlt : k < s.size
    · have HS := hide (all_take_succ hlt)
      have HNO : Hid (kindC s[k] = false → isKindB s.data.toList = false) := hide (fun h => HN.out (all_no hlt h))
      by_cases hd : 48 ≤ s[k].toNat ∧ s[k].toNat ≤ 57
      · have HK : Hid ((s.data.toList.take (k + 1)).all kindC = true) := hide (by rw [HS.out, HA.out]; simp [kindC, hd])
        have HD := hide (digit_yes s[k] hd w)
        clear hd
        go_wp2_with (go_at_call 96; refine HD.out.mono ?_; rintro e w' ⟨rfl, rfl⟩)
        exact ⟨⟨k + 1, by omega, by go_num, HK⟩, by simp [intOf]; omega⟩
      · have HD := hide (digit_no s[k] hd w)
        by_cases hl : 97 ≤ s[k].toNat ∧ s[k].toNat ≤ 122
        · have HK : Hid ((s.data.toList.take (k + 1)).all kindC = true) := hide (by rw [HS.out, HA.out]; simp [kindC, hl])
          have g1 : decide ((s[k].toNat : Int) < 97) = false := by simp; omega
          have g2 : decide ((122 : Int) < (s[k].toNat : Int)) = false := by simp; omega
          have g3 : ¬ (s[k].toNat : Int) < 97 := by omega
          have g4 : ¬ (122 : Int) < (s[k].toNat : Int) := by omega
          clear hd hl
          go_wp2_with (go_at_call 96; refine HD.out.mono ?_; rintro e w' ⟨rfl, rfl⟩)
          exact ⟨⟨k + 1, by omega, by go_num, HK⟩, by simp [intOf]; omega⟩
        · have HV : Hid (isKindB s.data.toList = false) := hide (HNO.out (by simp [kindC]; omega))
          by_cases hl1 : s[k].toNat < 97
          · have g1 : (s[k].toNat : Int) < 97 := by omega
            clear hd hl hl1
            go_wp2_with (go_at_call 96; refine HD.out.mono ?_; rintro e w' ⟨rfl, rfl⟩)
            go_ret
            exact ⟨by rw [HV.out]; rfl, rfl⟩
          · have g1 : ¬ (s[k].toNat : Int) < 97 := by omega
            have g2 : (122 : Int) < (s[k].toNat : Int) := by omega
            clear hd hl hl1
            go_wp2_with (go_at_call 96; refine HD.out.mono ?_; rintro e w' ⟨rfl, rfl⟩)
            go_ret
            exact ⟨by rw [HV.out]; rfl, rfl⟩
    · obtain rfl : k = s.size := by omega
      have HV : Hid (isKindB s.data.toList = true) := hide (HY.out (by rw [← HTK.out]; exact HA.out))
      go_wp2_with fail
      go_ret
      exact ⟨by rw [HV.out]; rfl, rfl⟩
theorem lay_eq (l : List UInt8) : (⟨l.toArray⟩ : ByteArray).data.toList = l := rfl
/-- Strings of four bytes that are a kind. -/
theorem hasKids_any (l : List UInt8) (w : World) : Calls Try.prog 80 #[.string ⟨l.toArray⟩] w fun e w' => e = .returned (.bool (hasKidsB l)) ∧ w = w' := by
  go_enter Try.func80, Try.ntmps80
  go_wp2_with fail
  all_goals
    go_ret
    exact ⟨ret_bool (by unfold hasKidsB kFilm kTrck kFrag; simp [*]), rfl⟩
end Go.Proofs.Ytlonhkjplijlcaa
