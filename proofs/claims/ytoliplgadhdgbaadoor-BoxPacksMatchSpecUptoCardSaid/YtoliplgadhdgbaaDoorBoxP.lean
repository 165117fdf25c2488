/- Boxes in plain words: trees, kinds, numbers, how bytes are read as boxes. Plain. -/
import Init
namespace Go.Proofs.YtoliplgadhdgbaaDoor
/-- A box. -/
inductive BoxT where
  | mk (kind : List UInt8) (form : Int) (data : List UInt8) (kids : List BoxT)
def BoxT.kind : BoxT → List UInt8 | .mk k _ _ _ => k
def BoxT.form : BoxT → Int | .mk _ f _ _ => f
def BoxT.data : BoxT → List UInt8 | .mk _ _ d _ => d
def BoxT.kids : BoxT → List BoxT | .mk _ _ _ l => l
theorem kids_lt (x : BoxT) : sizeOf x.kids < sizeOf x := by
  cases x with
  | mk k f d l => simp only [BoxT.kids, BoxT.mk.sizeOf_spec]; omega
theorem elem_lt {l : List BoxT} {x : BoxT} (h : x ∈ l) : sizeOf x < sizeOf l := List.sizeOf_lt_of_mem h
/-- The number that bytes are. -/
def numB (l : List UInt8) : Nat := l.foldl (fun n c => n * 256 + c.toNat) 0
theorem numB_snoc (l : List UInt8) (c : UInt8) : numB (l ++ [c]) = numB l * 256 + c.toNat := by
  unfold numB; rw [List.foldl_append]; rfl
theorem numB_take {l : List UInt8} {k : Nat} (h : k < l.length) : numB (l.take (k + 1)) = numB (l.take k) * 256 + l[k].toNat := by
  rw [List.take_succ_eq_append_getElem h, numB_snoc]
theorem numB_lt : ∀ (n : Nat) (l : List UInt8), l.length = n → numB l < 256 ^ n
  | 0, l, h => by
    have := List.eq_nil_of_length_eq_zero h
    subst this
    decide
  | n + 1, l, h => by
    have hn : n < l.length := by omega
    have e : l = l.take n ++ [l[n]] := by
      conv => lhs; rw [← List.take_append_drop n l]
      congr 1
      rw [List.drop_eq_getElem_cons hn, List.drop_of_length_le (by omega)]
    have ih := numB_lt n (l.take n) (by rw [List.length_take]; omega)
    rw [e, numB_snoc]
    have := (l[n]).toNat_lt
    rw [Nat.pow_succ]
    omega
/-- A byte of a kind. -/
def kindC (c : UInt8) : Bool := (48 ≤ c.toNat && c.toNat ≤ 57) || (97 ≤ c.toNat && c.toNat ≤ 122)
def isKindB (l : List UInt8) : Bool := decide (l.length = 4) && l.all kindC
def kFilm : List UInt8 := [102, 105, 108, 109]
def kTrck : List UInt8 := [116, 114, 99, 107]
def kFrag : List UInt8 := [102, 114, 97, 103]
def hasKidsB (l : List UInt8) : Bool := l == kFilm || l == kTrck || l == kFrag
/-- A box in its place. -/
inductive NodeT where
  | mk (kind : List UInt8) (form : Int) (beg dat en : Nat) (kids : List NodeT)
def NodeT.kind : NodeT → List UInt8 | .mk k _ _ _ _ _ => k
def NodeT.form : NodeT → Int | .mk _ f _ _ _ _ => f
def NodeT.beg : NodeT → Nat | .mk _ _ b _ _ _ => b
def NodeT.dat : NodeT → Nat | .mk _ _ _ d _ _ => d
def NodeT.en : NodeT → Nat | .mk _ _ _ _ e _ => e
def NodeT.kids : NodeT → List NodeT | .mk _ _ _ _ _ l => l
/-- Some bytes. -/
def cutB (b : List UInt8) (i j : Nat) : List UInt8 := (b.drop i).take (j - i)
mutual
def boxOf (b : List UInt8) : NodeT → BoxT
  | .mk k f _ d e l => .mk k f (if hasKidsB k = true then [] else cutB b d e) (boxesOf b l)
def boxesOf (b : List UInt8) : List NodeT → List BoxT
  | [] => []
  | x :: r => boxOf b x :: boxesOf b r
end
theorem boxesOf_map (b : List UInt8) : ∀ l, boxesOf b l = l.map (boxOf b)
  | [] => by rw [boxesOf]; rfl
  | x :: r => by rw [boxesOf, boxesOf_map b r]; rfl
/-- The head of a box: its kind, its form, where its contents begin and where it ends. -/
def headF (kind : List UInt8) (form : Int) (from_ left dat size : Nat) : Option (List UInt8 × Int × Nat × Nat) :=
  if isKindB kind = true ∧ dat - from_ ≤ size ∧ size ≤ left then some (kind, form, dat, from_ + size) else none
def headP (b : List UInt8) (from_ to : Nat) : Option (List UInt8 × Int × Nat × Nat) :=
  if to - from_ < 8 then none
  else if numB (cutB b from_ (from_ + 4)) = 1 then
    if to - from_ < 16 then none else headF (cutB b (from_ + 4) (from_ + 8)) 1 from_ (to - from_) (from_ + 16) (numB (cutB b (from_ + 8) (from_ + 16)))
  else if numB (cutB b from_ (from_ + 4)) = 0 then headF (cutB b (from_ + 4) (from_ + 8)) 2 from_ (to - from_) (from_ + 8) (to - from_)
  else headF (cutB b (from_ + 4) (from_ + 8)) 0 from_ (to - from_) (from_ + 8) (numB (cutB b from_ (from_ + 4)))
theorem headF_some {kind : List UInt8} {form : Int} {f left dat size : Nat} {r : List UInt8 × Int × Nat × Nat} (h : headF kind form f left dat size = some r) :
    r = (kind, form, dat, f + size) ∧ isKindB kind = true ∧ dat - f ≤ size ∧ size ≤ left := by
  unfold headF at h
  split at h
  · injection h with h; exact ⟨h.symm, by assumption⟩
  · cases h
theorem headP_some {b : List UInt8} {f to : Nat} {k : List UInt8} {fo : Int} {d e : Nat} (h : headP b f to = some (k, fo, d, e)) :
    f + 8 ≤ d ∧ d ≤ e ∧ e ≤ to ∧ isKindB k = true ∧ k = cutB b (f + 4) (f + 8) ∧ (fo = 0 ∨ fo = 1 ∨ fo = 2) := by
  unfold headP at h
  split at h
  · cases h
  · split at h
    · split at h
      · cases h
      · obtain ⟨e1, h1, h2, h3⟩ := headF_some h
        injection e1 with e1 e2; injection e2 with e2 e3; injection e3 with e3 e4
        subst e1 e2 e3 e4
        exact ⟨by omega, by omega, by omega, h1, rfl, by omega⟩
    · split at h
      · obtain ⟨e1, h1, h2, h3⟩ := headF_some h
        injection e1 with e1 e2; injection e2 with e2 e3; injection e3 with e3 e4
        subst e1 e2 e3 e4
        exact ⟨by omega, by omega, by omega, h1, rfl, by omega⟩
      · obtain ⟨e1, h1, h2, h3⟩ := headF_some h
        injection e1 with e1 e2; injection e2 with e2 e3; injection e3 with e3 e4
        subst e1 e2 e3 e4
        exact ⟨by omega, by omega, by omega, h1, rfl, by omega⟩
/-- What reading gives: boxes and how many were read, or where something is wrong. -/
inductive ParR where
  | ok (l : List NodeT) (count : Nat)
  | err (at_ : Nat) (f : Int)
def ParR.pre (l : List NodeT) : ParR → ParR
  | .ok r c => .ok (l ++ r) c
  | .err a f => .err a f
theorem pre_nil (r : ParR) : r.pre [] = r := by cases r <;> rfl
theorem pre_pre (l k : List NodeT) (r : ParR) : (r.pre k).pre l = r.pre (l ++ k) := by cases r <;> simp [ParR.pre]
/-- Reading the boxes from a place up to another one, within so many others; so many were read before. -/
def parP (b : List UInt8) : Nat → Nat → Nat → Nat → Nat → ParR
  | 0, _, _, _, count => .ok [] count
  | fuel + 1, f, to, depth, count =>
    if to ≤ f then .ok [] count
    else if 2000 < count + 1 ∨ 8 ≤ depth then .err f 2
    else match headP b f to with
      | none => .err f 10
      | some (k, fo, d, e) =>
        if hasKidsB k = true then
          match parP b fuel d e (depth + 1) (count + 1) with
          | .err a g => .err a g
          | .ok kids c => (parP b fuel e to depth c).pre [.mk k fo f d e kids]
        else (parP b fuel e to depth (count + 1)).pre [.mk k fo f d e []]
theorem parP_fuel (b : List UInt8) : ∀ (m n f to depth count : Nat), to - f < m → to - f < n → parP b m f to depth count = parP b n f to depth count
  | 0, _, _, _, _, _, h, _ => absurd h (Nat.not_lt_zero _)
  | m + 1, 0, _, _, _, _, _, h => absurd h (Nat.not_lt_zero _)
  | m + 1, n + 1, f, to, depth, count, hm, hn => by
    unfold parP
    split
    · rfl
    · split
      · rfl
      · cases hh : headP b f to with
        | none => rfl
        | some r =>
          obtain ⟨k, fo, d, e⟩ := r
          obtain ⟨h1, h2, h3, _⟩ := headP_some hh
          simp only
          rw [parP_fuel b m n d e (depth + 1) (count + 1) (by omega) (by omega)]
          rw [parP_fuel b m n e to depth (count + 1) (by omega) (by omega)]
          have hc : ∀ c, parP b m e to depth c = parP b n e to depth c := fun c => parP_fuel b m n e to depth c (by omega) (by omega)
          split
          · cases parP b n d e (depth + 1) (count + 1) with
            | err a g => rfl
            | ok kids c => simp only [hc]
          · rfl
def parF (b : List UInt8) (f to depth count : Nat) : ParR := parP b (to - f + 1) f to depth count
theorem parF_end {b : List UInt8} {f to depth count : Nat} (h : to ≤ f) : parF b f to depth count = .ok [] count := by
  unfold parF parP; rw [if_pos h]
theorem parF_large {b : List UInt8} {f to depth count : Nat} (h : f < to) (hc : 2000 < count + 1 ∨ 8 ≤ depth) : parF b f to depth count = .err f 2 := by
  unfold parF parP; rw [if_neg (by omega), if_pos hc]
theorem parF_none {b : List UInt8} {f to depth count : Nat} (h : f < to) (hc : ¬ (2000 < count + 1 ∨ 8 ≤ depth)) (hh : headP b f to = none) : parF b f to depth count = .err f 10 := by
  unfold parF parP; rw [if_neg (by omega), if_neg hc, hh]
theorem parF_leaf {b : List UInt8} {f to depth count : Nat} {k : List UInt8} {fo : Int} {d e : Nat} (h : f < to) (hc : ¬ (2000 < count + 1 ∨ 8 ≤ depth)) (hh : headP b f to = some (k, fo, d, e)) (hk : hasKidsB k = false) :
    parF b f to depth count = (parF b e to depth (count + 1)).pre [.mk k fo f d e []] := by
  obtain ⟨h1, h2, h3, _⟩ := headP_some hh
  conv => lhs; unfold parF parP
  rw [if_neg (by omega), if_neg hc, hh]
  simp only [hk, Bool.false_eq_true, if_false]
  unfold parF
  rw [parP_fuel b (to - f) (to - e + 1) e to depth (count + 1) (by omega) (by omega)]
theorem parF_kids {b : List UInt8} {f to depth count : Nat} {k : List UInt8} {fo : Int} {d e : Nat} (h : f < to) (hc : ¬ (2000 < count + 1 ∨ 8 ≤ depth)) (hh : headP b f to = some (k, fo, d, e)) (hk : hasKidsB k = true) :
    parF b f to depth count = match parF b d e (depth + 1) (count + 1) with
      | .err a g => .err a g
      | .ok kids c => (parF b e to depth c).pre [.mk k fo f d e kids] := by
  obtain ⟨h1, h2, h3, _⟩ := headP_some hh
  conv => lhs; unfold parF parP
  rw [if_neg (by omega), if_neg hc, hh]
  simp only [hk, if_true]
  unfold parF
  rw [parP_fuel b (to - f) (e - d + 1) d e (depth + 1) (count + 1) (by omega) (by omega)]
  cases parP b (e - d + 1) d e (depth + 1) (count + 1) with
  | err a g => rfl
  | ok kids c =>
    simp only
    rw [parP_fuel b (to - f) (to - e + 1) e to depth c (by omega) (by omega)]
end Go.Proofs.YtoliplgadhdgbaaDoor
