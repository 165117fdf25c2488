/- Several texts in one: Trees of boxes in memory. No condition; A drawn region whose last operation writes a cell that an elder one loads. Conditions: as stated; Words for slices of slices of numbers. No condition; A drawn region whose last phase writes cells that elder operations load: more words. Conditions: as stated. -/
import Derived.Test.YtlonhkjplijlcaaMwf03
import Derived.Test.YtlonhkjplijlcaaMwf00
import Derived.Deep.RegionHeld3
import Derived.Test.YtlonhkjplijlcaaMwf01
namespace Go.Proofs.Ytlonhkjplijlcaa
open Go.RowKit
/-- The cells of a box, and of a node. -/
structure BoxH where
  kind : List UInt8
  form : Int
  dA : Option Addr
  dn : Nat
  dc : Nat
  kA : Option Addr
  kn : Nat
  kc : Nat
deriving Inhabited
structure NodeH where
  box : BoxH
  beg : Nat
  dat : Nat
  en : Nat
  nA : Option Addr
  nn : Nat
  nc : Nat
deriving Inhabited
abbrev eBx (x : BoxH) : List Value := [.string ⟨x.kind.toArray⟩, .int .i64 x.form, .slice x.dA x.dn x.dc, .slice x.kA x.kn x.kc]
abbrev eNd (x : NodeH) : List Value := [.string ⟨x.box.kind.toArray⟩, .int .i64 x.box.form, .slice x.box.dA x.box.dn x.box.dc, .slice x.box.kA x.box.kn x.box.kc, .int .i64 (x.beg : Int), .int .i64 (x.dat : Int), .int .i64 (x.en : Int), .slice x.nA x.nn x.nc]
theorem len_eBx (x : BoxH) : (eBx x).length = 4 := rfl
theorem len_eNd (x : NodeH) : (eNd x).length = 8 := rfl
theorem one_eBx (x : BoxH) : ∀ u ∈ eBx x, u.oneCell' = true := by
  intro u hu
  simp at hu
  rcases hu with rfl | rfl | rfl | rfl <;> rfl
theorem one_eNd (x : NodeH) : ∀ u ∈ eNd x, u.oneCell' = true := by
  intro u hu
  simp at hu
  rcases hu with rfl | rfl | rfl | rfl | rfl | rfl | rfl | rfl <;> rfl
/-- An address lies in good blocks. -/
def InG (G : Nat → Prop) (A : Option Addr) : Prop := ∀ a, A = some a → G a.block
theorem InG.mono {G H : Nat → Prop} {A : Option Addr} (h : InG G A) (hi : ∀ k, G k → H k) : InG H A := fun a ha => hi _ (h a ha)
theorem At.good {α : Type} {w w' : World} {sz : Nat} {enc : α → List Value} {A : Option Addr} {n c : Nat} {xs : List α} {G : Nat → Prop} (h : At w sz enc A n c xs) (hA : InG G A) (hG : ∀ k, G k → w'.heap[k]? = w.heap[k]?) : At w' sz enc A n c xs :=
  ⟨h.len, h.le, h.max, h.none_, fun k x hx => by
    obtain ⟨b, off, e, hc⟩ := h.cells k x hx
    refine ⟨b, off, e, fun j u hu => ?_⟩
    have h3 := hc j u hu
    have h4 := hG b (hA _ e)
    unfold World.cell? at h3 ⊢
    simp only at h3 ⊢
    rw [h4]
    exact h3⟩
theorem At.blk_lt {α : Type} {w : World} {sz : Nat} {enc : α → List Value} {A : Option Addr} {n c : Nat} {xs : List α} (h : At w sz enc A n c xs) (hsz : ∀ x, (enc x).length = sz) (h0 : 0 < sz) (hn : 0 < n) : ∀ a, A = some a → a.block < w.heap.size := fun a ha => by
  subst ha
  obtain ⟨b1, o1, e, hc⟩ := h.addr hn
  have hl := h.len
  have hk : 0 < xs.length := by omega
  have := cell_lt (hc 0 hk 0 _ (List.getElem?_eq_getElem (by rw [hsz]; exact h0)))
  injection e with e
  rw [e]
  simpa using this
/-- A box that is told but for its kids. -/
def BxHd (w : World) (G : Nat → Prop) (y : BoxH) (x : BoxT) : Prop := y.kind = x.kind ∧ y.form = x.form ∧ At w 1 e8 y.dA y.dn y.dc x.data ∧ InG G y.dA
/-- A slice that reads as boxes. -/
inductive BxsAt (w : World) (G : Nat → Prop) : Option Addr → Nat → Nat → List BoxT → Prop
  | mk {A : Option Addr} {n c : Nat} (hs : List BoxH) (l : List BoxT) (h : At w 4 eBx A n c hs) (hg : InG G A) (hl : hs.length = l.length)
      (h1 : ∀ (i : Nat) (y : BoxH) (x : BoxT), hs[i]? = some y → l[i]? = some x → BxHd w G y x) (h2 : ∀ (i : Nat) (y : BoxH) (x : BoxT), hs[i]? = some y → l[i]? = some x → BxsAt w G y.kA y.kn y.kc x.kids) : BxsAt w G A n c l
def BxOk (w : World) (G : Nat → Prop) (y : BoxH) (x : BoxT) : Prop := BxHd w G y x ∧ BxsAt w G y.kA y.kn y.kc x.kids
theorem BxHd.good {w w' : World} {G H : Nat → Prop} {y : BoxH} {x : BoxT} (h : BxHd w G y x) (hG : ∀ k, G k → w'.heap[k]? = w.heap[k]?) (hi : ∀ k, G k → H k) : BxHd w' H y x :=
  ⟨h.1, h.2.1, h.2.2.1.good h.2.2.2 hG, h.2.2.2.mono hi⟩
theorem BxsAt.good {w w' : World} {G H : Nat → Prop} (hG : ∀ k, G k → w'.heap[k]? = w.heap[k]?) (hi : ∀ k, G k → H k) {A : Option Addr} {n c : Nat} {l : List BoxT} (h : BxsAt w G A n c l) : BxsAt w' H A n c l := by
  induction h with
  | mk hs l h hg hl h1 _ ih => exact .mk hs l (h.good hg hG) (hg.mono hi) hl (fun i y x hy hx => (h1 i y x hy hx).good hG hi) ih
theorem BxOk.good {w w' : World} {G H : Nat → Prop} {y : BoxH} {x : BoxT} (h : BxOk w G y x) (hG : ∀ k, G k → w'.heap[k]? = w.heap[k]?) (hi : ∀ k, G k → H k) : BxOk w' H y x :=
  ⟨h.1.good hG hi, h.2.good hG hi⟩
theorem BxsAt.nil (w : World) (G : Nat → Prop) : BxsAt w G none 0 0 [] :=
  .mk [] [] (At.nil _ _ _) (fun a h => by cases h) rfl (fun i y x hy _ => by simp at hy) (fun i y x hy _ => by simp at hy)
theorem BxsAt.len {w : World} {G : Nat → Prop} {A : Option Addr} {n c : Nat} {l : List BoxT} (h : BxsAt w G A n c l) : l.length = n := by
  cases h with
  | mk hs l h hg hl _ _ => rw [← hl]; exact h.len
/-- A node that is told but for its kids; a slice that reads as nodes. -/
def NdHd (w : World) (b : List UInt8) (G : Nat → Prop) (y : NodeH) (x : NodeT) : Prop := BxOk w G y.box (boxOf b x) ∧ y.beg = x.beg ∧ y.dat = x.dat ∧ y.en = x.en
inductive NdsAt (w : World) (b : List UInt8) (G : Nat → Prop) : Option Addr → Nat → Nat → List NodeT → Prop
  | mk {A : Option Addr} {n c : Nat} (hs : List NodeH) (l : List NodeT) (h : At w 8 eNd A n c hs) (hg : InG G A) (hl : hs.length = l.length)
      (h1 : ∀ (i : Nat) (y : NodeH) (x : NodeT), hs[i]? = some y → l[i]? = some x → NdHd w b G y x) (h2 : ∀ (i : Nat) (y : NodeH) (x : NodeT), hs[i]? = some y → l[i]? = some x → NdsAt w b G y.nA y.nn y.nc x.kids) : NdsAt w b G A n c l
def NdOk (w : World) (b : List UInt8) (G : Nat → Prop) (y : NodeH) (x : NodeT) : Prop := NdHd w b G y x ∧ NdsAt w b G y.nA y.nn y.nc x.kids
theorem NdHd.good {w w' : World} {b : List UInt8} {G H : Nat → Prop} {y : NodeH} {x : NodeT} (h : NdHd w b G y x) (hG : ∀ k, G k → w'.heap[k]? = w.heap[k]?) (hi : ∀ k, G k → H k) : NdHd w' b H y x :=
  ⟨h.1.good hG hi, h.2⟩
theorem NdsAt.good {w w' : World} {b : List UInt8} {G H : Nat → Prop} (hG : ∀ k, G k → w'.heap[k]? = w.heap[k]?) (hi : ∀ k, G k → H k) {A : Option Addr} {n c : Nat} {l : List NodeT} (h : NdsAt w b G A n c l) : NdsAt w' b H A n c l := by
  induction h with
  | mk hs l h hg hl h1 _ ih => exact .mk hs l (h.good hg hG) (hg.mono hi) hl (fun i y x hy hx => (h1 i y x hy hx).good hG hi) ih
theorem NdOk.good {w w' : World} {b : List UInt8} {G H : Nat → Prop} {y : NodeH} {x : NodeT} (h : NdOk w b G y x) (hG : ∀ k, G k → w'.heap[k]? = w.heap[k]?) (hi : ∀ k, G k → H k) : NdOk w' b H y x :=
  ⟨h.1.good hG hi, h.2.good hG hi⟩
theorem NdsAt.nil (w : World) (b : List UInt8) (G : Nat → Prop) : NdsAt w b G none 0 0 [] :=
  .mk [] [] (At.nil _ _ _) (fun a h => by cases h) rfl (fun i y x hy _ => by simp at hy) (fun i y x hy _ => by simp at hy)
/-- Many elements that are right, in a row that the call owns: their blocks are others than the row's. -/
structure Rw {α β : Type} (w : World) (B : Nat) (t : TypeId) (sz : Nat) (enc : α → List Value) (ok : (Nat → Prop) → α → β → Prop) (v : Value) (hs : List α) (l : List β) : Prop where
  own : Own w B t sz enc v hs
  len : hs.length = l.length
  els : ∃ G : Nat → Prop, (∀ k, G k → B ≤ k ∧ k < w.heap.size ∧ v.ownBlock ≠ some k) ∧ ∀ (i : Nat) (y : α) (x : β), hs[i]? = some y → l[i]? = some x → ok G y x
theorem get_snoc {α : Type} {l : List α} {x y : α} {i : Nat} (h : (l ++ [x])[i]? = some y) : l[i]? = some y ∨ (i = l.length ∧ y = x) := by
  rw [List.getElem?_append] at h
  split at h
  · exact .inl h
  · rename_i hl
    right
    have : i - l.length = 0 := by
      rcases Nat.eq_zero_or_pos (i - l.length) with h0 | h0
      · exact h0
      · rw [List.getElem?_eq_none (by simp; omega)] at h; cases h
    rw [this] at h
    simp at h
    exact ⟨by omega, h.symm⟩
theorem get_lt {α : Type} {l : List α} {y : α} {i : Nat} (h : l[i]? = some y) : i < l.length := by
  rcases Nat.lt_or_ge i l.length with h1 | h1
  · exact h1
  · rw [List.getElem?_eq_none h1] at h; cases h
theorem Tw.new {a b c : World} {o q : Nat} (h : Tw a b o none) (k : Tw b c q none) (hq : a.heap.size ≤ q) : Tw a c o none :=
  ⟨k.os.trans h.os, k.tape.trans h.tape, k.output.trans h.output, Nat.le_trans h.size k.size, fun j hj ho hr => (k.block j (Nat.lt_of_lt_of_le hj h.size) (by omega) hr).trans (h.block j hj ho hr)⟩
theorem Tw.row {a b c : World} {o : Nat} {row : Option Nat} (h : Tw a b o none) (k : b.grownBy c row) (hq : ∀ g, row = some g → a.heap.size ≤ g ∨ g = o) : Tw a c o none :=
  ⟨k.os.trans h.os, k.tape.trans h.tape, k.output.trans h.output, Nat.le_trans h.size k.size, fun j hj ho hr => (k.block j (Nat.lt_of_lt_of_le hj h.size) (fun e => by have := hq j e.symm; omega)).trans (h.block j hj ho hr)⟩
theorem Rw.tw {w w' : World} {b : List UInt8} {B o : Nat} {t : TypeId} {v : Value} {hs : List NodeH} {l : List NodeT} (h : Rw w B t 8 eNd (NdOk w b) v hs l) (hT : Tw w w' o none) (ho : o < B) : Rw w' B t 8 eNd (NdOk w' b) v hs l := by
  obtain ⟨h1, h2, G, h3, h4⟩ := h
  refine ⟨h1.tw hT (fun e => by have := (h1.lt o e).1; omega) (fun g hg e => by cases e), h2, G, fun k hk => ⟨(h3 k hk).1, Nat.lt_of_lt_of_le (h3 k hk).2.1 hT.size, (h3 k hk).2.2⟩, fun i y x hy hx => (h4 i y x hy hx).good (fun k hk => hT.block k (h3 k hk).2.1 (by have := (h3 k hk).1; omega) (by simp)) (fun _ hk => hk)⟩
theorem Rw.snoc {w wa w' : World} {b : List UInt8} {B : Nat} {t : TypeId} {v v' : Value} {hs : List NodeH} {l : List NodeT} {y : NodeH} {x : NodeT} {G' : Nat → Prop} (h : Rw w B t 8 eNd (NdOk w b) v hs l) (hy : NdOk w b G' y x)
    (hG : ∀ k, G' k → B ≤ k ∧ k < w.heap.size ∧ v.ownBlock ≠ some k) (he : Ext w wa) (ho : Own w' B t 8 eNd v' (hs ++ [y])) (hg : wa.grownBy w' v.ownBlock) (hr : v'.ownBlock = v.ownBlock ∨ v'.ownBlock = some wa.heap.size) :
    Rw w' B t 8 eNd (NdOk w' b) v' (hs ++ [y]) (l ++ [x]) := by
  obtain ⟨h1, h2, G, h3, h4⟩ := h
  have hsz := he.size
  have hb : ∀ k, k < w.heap.size → v.ownBlock ≠ some k → w'.heap[k]? = w.heap[k]? := fun k hk hn => (hg.block k (by omega) (fun e => hn e.symm)).trans (he.block k hk)
  refine ⟨ho, by simp [h2], fun k => G k ∨ G' k, fun k hk => ?_, fun i y' x' hy' hx' => ?_⟩
  · have hk2 : B ≤ k ∧ k < w.heap.size ∧ v.ownBlock ≠ some k := by
      rcases hk with hk | hk
      · exact h3 k hk
      · exact hG k hk
    refine ⟨hk2.1, by have := hg.size; omega, ?_⟩
    rcases hr with hr | hr
    · rw [hr]; exact hk2.2.2
    · rw [hr]; intro e; injection e with e; omega
  · rcases get_snoc hy' with hy1 | ⟨hy1, rfl⟩
    · have hi := get_lt hy1
      have hx1 : l[i]? = some x' := by
        rw [List.getElem?_append_left (by omega)] at hx'
        exact hx'
      exact (h4 i y' x' hy1 hx1).good (fun k hk => hb k (h3 k hk).2.1 (h3 k hk).2.2) (fun _ hk => .inl hk)
    · have hx1 : x' = x := by
        rcases get_snoc hx' with hx1 | ⟨_, hx1⟩
        · have := get_lt hx1; omega
        · exact hx1
      subst hx1
      exact hy.good (fun k hk => hb k (hG k hk).2.1 (hG k hk).2.2) (fun _ hk => .inr hk)
/-- A fresh block that reads as one element. -/
theorem At.newE {α : Type} {sz : Nat} {enc : α → List Value} (w : World) (x : α) (cs : Array Value) (t : TypeId) (hu : enc x = cs.toList) : At (w.alloc (.cells cs t)) sz enc (some ⟨w.heap.size, 0, none⟩) 1 1 [x] :=
  ⟨rfl, Nat.le_refl _, by unfold maxLen; omega, fun h => (by cases h), fun k z hz => ⟨_, _, rfl, fun j v hv => by
    match k, hz with
    | 0, hz =>
      simp at hz; subst hz
      rw [hu] at hv
      have := (Blk.new w t cs).cell j
      rw [Nat.zero_mul, Nat.add_zero, Nat.zero_add, this]
      simpa using hv
    | k + 1, hz => simp at hz⟩⟩
/-- The last element of an owned row is written cell by cell. -/
theorem Own.last {α : Type} {w : World} {base : Nat} {t : TypeId} {sz : Nat} {enc : α → List Value} {g n c : Nat} {bs : List α} {z : α} (hsz : ∀ x, (enc x).length = sz) (h : Own w base t sz enc (.slice (some ⟨g, 0, none⟩) (n + 1) c) (bs ++ [z])) :
    ∃ cur : Array Value, Blk w g t cur ∧ base ≤ g ∧ bs.length = n ∧ n + 1 ≤ c ∧ c ≤ maxLen ∧ cur.size = c * sz ∧ cur.toList.take ((n + 1) * sz) = bs.flatMap enc ++ enc z := by
  have hl := h.len hsz
  rcases h.2 with ⟨h1, _⟩ | ⟨g', cap, cur, h1, hb, hg, hc, hm, hs, ht⟩
  · cases h1
  · injection h1 with h1 h2 h3
    injection h1 with h1
    injection h1 with h1
    subst h1 h3
    simp only [List.length_append, List.length_singleton] at hl hc ht
    have hbn : bs.length = n := by omega
    rw [hbn] at hc ht
    exact ⟨cur, hg, hb, hbn, hc, hm, hs, by rw [ht, List.flatMap_append]; simp⟩
theorem Own.of_last {α : Type} {w : World} {base : Nat} {t : TypeId} {sz : Nat} {enc : α → List Value} {g n c : Nat} {bs : List α} {y : α} {cur : Array Value} (hb : Blk w g t cur) (h0 : base ≤ g) (h1 : bs.length = n) (h2 : n + 1 ≤ c) (h3 : c ≤ maxLen) (h4 : cur.size = c * sz)
    (h5 : cur.toList.take ((n + 1) * sz) = bs.flatMap enc ++ enc y) (hsz : ∀ x, (enc x).length = sz) : Own w base t sz enc (.slice (some ⟨g, 0, none⟩) (n + 1) c) (bs ++ [y]) := by
  have hl : (bs ++ [y]).length = n + 1 := by simp [h1]
  refine ⟨?_, .inr ⟨g, c, cur, by rw [hl], h0, hb, by rw [hl]; exact h2, h3, h4, by rw [hl, h5, List.flatMap_append]; simp⟩⟩
  exact flat_len hsz _
theorem Own.setLast4 {α : Type} {w : World} {base : Nat} {t : TypeId} {enc : α → List Value} {g n c : Nat} {bs : List α} {z y : α} {u0 u1 u2 u3 : Value} (hsz : ∀ x, (enc x).length = 4) (hy : enc y = [u0, u1, u2, u3])
    (h : Own w base t 4 enc (.slice (some ⟨g, 0, none⟩) (n + 1) c) (bs ++ [z])) :
    Own ((((w.setCell ⟨g, n * 4, none⟩ u0).setCell ⟨g, n * 4 + 1, none⟩ u1).setCell ⟨g, n * 4 + 2, none⟩ u2).setCell ⟨g, n * 4 + 3, none⟩ u3) base t 4 enc (.slice (some ⟨g, 0, none⟩) (n + 1) c) (bs ++ [y]) := by
  obtain ⟨cur, hb, h0, h1, h2, h3, h4, h5⟩ := h.last hsz
  refine Own.of_last ((((hb.set_ _ u0).set_ _ u1).set_ _ u2).set_ _ u3) h0 h1 h2 h3 (by simp [h4]) ?_ hsz
  have hf := flat_len hsz bs
  obtain ⟨z0, z1, z2, z3, hz⟩ : ∃ z0 z1 z2 z3, enc z = [z0, z1, z2, z3] := by
    have := hsz z
    match enc z, this with
    | [a, b, c, d], _ => exact ⟨a, b, c, d, rfl⟩
  simp only [Array.toList_setIfInBounds, List.take_set, h5, hz, hy]
  have e : (bs.flatMap enc).length = n * 4 := by rw [hf, h1]
  simp [e]
theorem Own.lastCells {α : Type} {w : World} {base : Nat} {t : TypeId} {sz : Nat} {enc : α → List Value} {g n c : Nat} {bs : List α} {z : α} (hsz : ∀ x, (enc x).length = sz) (h : Own w base t sz enc (.slice (some ⟨g, 0, none⟩) (n + 1) c) (bs ++ [z])) {i : Nat} {u : Value} (hu : (enc z)[i]? = some u) :
    w.cell? ⟨g, n * sz + i, none⟩ = some u ∧ w.frozen? ⟨g, n * sz + i, none⟩ = false := by
  obtain ⟨cur, hb, h0, h1, h2, h3, h4, h5⟩ := h.last hsz
  have hf := flat_len hsz bs
  have hi := get_lt hu
  rw [hsz] at hi
  refine ⟨?_, hb.frozen _⟩
  rw [hb.cell]
  have e : (cur.toList.take ((n + 1) * sz))[n * sz + i]? = some u := by
    rw [h5, List.getElem?_append_right (by rw [hf, h1]; omega), hf, h1, show n * sz + i - n * sz = i by omega]
    exact hu
  rw [List.getElem?_take, if_pos (by rw [Nat.add_mul]; omega)] at e
  simpa using e
end Go.Proofs.Ytlonhkjplijlcaa
namespace Go.Proofs.Ytlonhkjplijlcaa
open Go.RowKit
section
variable {P : Program} {ops : Array Oper} {Q : Exit → Act → World → Prop} {md : Region.Mode} {S : World → Prop} {z : Nat}

/-- Whatever order is picked, with S kept behind each operation until number z has come up. -/
def AnyZ (P : Program) (md : Region.Mode) (ops : Array Oper) (Q : Exit → Act → World → Prop) (S : World → Prop) (z : Nat) : Nat → Array Bool → Act → World → Prop
  | 0, L, a, w => Region.ready md ops L = [] ∧ Q .normal a w
  | n + 1, L, a, w => (Region.ready md ops L = [] → Q .normal a w) ∧
    ∀ i ∈ Region.ready md ops L, wpOp P ops Q i (fun a' w' => ((L.setIfInBounds i true).getD z true = false → S w') ∧ AnyZ P md ops Q S z n (L.setIfInBounds i true) a' w') a w

theorem AnyZ.any : ∀ (n : Nat) (L : Array Bool) (a : Act) (w : World), AnyZ P md ops Q S z n L a w → wpAny P md ops Q n L a w
  | 0, _, _, _, h => h
  | n + 1, _, _, _, ⟨h0, h1⟩ => ⟨h0, fun i hi => wpOp_mono (fun a' w' h' => AnyZ.any n _ a' w' h'.2) (h1 i hi)⟩

theorem AnyZ.first {i : Nat} {oi oz : Oper} {v : Value} (hi : ops[i]? = some oi) (hz : ops[z]? = some oz) (hzi : ∃ e ∈ oz.after, Region.binds md e = true ∧ e.on = i) (hne : z ≠ i)
    (hsel : ∀ (j : Nat) (o : Oper) cs b, ops[j]? = some o → o.op ≠ .select cs b)
    (hQ : ∀ c a w, Q (.panic c) (a.put oi.dst v) w → Q (.panic c) a w) :
    ∀ (n : Nat) (L : Array Bool) (a : Act) (w : World),
      (∀ j oj, ops[j]? = some oj → j ≠ i → L.getD j true = false → (∀ e ∈ oj.after, Region.binds md e = true → e.on ≠ i) → oi.apart ops oj = true) →
      i ∈ Region.ready md ops L → L.getD z true = false → YieldsIf P ops S oi v a → S w →
      AnyZ P md ops Q S z n (L.setIfInBounds i true) (a.put oi.dst v) w → AnyZ P md ops Q S z (n + 1) L a w
  | 0, L, a, w, _, hr, _, hy, hS, H => by
    refine ⟨fun h => absurd hr (by simp [h]), fun j hj => ?_⟩
    by_cases hji : j = i
    · subst hji
      exact hy.wpOp hi hS ⟨fun _ => hS, H⟩
    · exact absurd (ready_mono hj hji) (by simp [H.1])
  | n + 1, L, a, w, hf, hr, hL, hy, hS, H => by
    refine ⟨fun h => absurd hr (by simp [h]), fun j hj => ?_⟩
    by_cases hji : j = i
    · subst hji
      exact hy.wpOp hi hS ⟨fun _ => hS, H⟩
    obtain ⟨hu, oj, hoj, hall⟩ := mem_ready.1 hj
    have hin : ∀ e ∈ oj.after, Region.binds md e = true → e.on ≠ i := fun e he hb hq => by
      have hdone := hall e he hb
      have hopen := (mem_ready.1 hr).1
      rw [hq] at hdone
      by_cases hs : i < L.size
      · simp [hs] at hdone hopen
        rw [hdone] at hopen
        cases hopen
      · simp [hs] at hdone
    have hjz : j ≠ z := fun h => by
      subst h
      obtain ⟨e, he, hb, hq⟩ := hzi
      rw [hz] at hoj
      injection hoj with hoj
      subst hoj
      exact hin e he hb hq
    have hLz : (L.setIfInBounds j true).getD z true = false := by rw [getD_set_ne true hjz]; exact hL
    have hLz2 : ((L.setIfInBounds i true).setIfInBounds j true).getD z true = false := by
      rw [getD_set_ne true hjz, getD_set_ne true (Ne.symm hne)]; exact hL
    have st := wpOp_putIf hoj (hf j oj hoj hji hu hin) (fun cs b => hsel i oi cs b hi) (fun cs b => hsel j oj cs b hoj) hQ hy (H.2 j (ready_mono hj hji))
    refine wpOp_mono (fun a' w' ⟨hy', hS', hr'⟩ => ?_) st
    have hSw := hS' hLz2
    refine ⟨fun _ => hSw, AnyZ.first hi hz hzi hne hsel hQ n _ a' w' (fun k ok hk hki hun hno => hf k ok hk hki ?_ hno) (ready_mono hr (Ne.symm hji)) hLz hy' hSw ?_⟩
    · by_cases hjk : j = k
      · subst hjk; exact hu
      · rwa [getD_set_ne true hjk] at hun
    · rw [Array.setIfInBounds_comm _ _ hji]
      exact hr'

theorem AnyZ.take {i : Nat} {oi oz : Oper} {v : Value} {n : Nat} {L : Array Bool} {a : Act} {w : World} (hi : ops[i]? = some oi) (hz : ops[z]? = some oz)
    (hzi : (oz.after.any fun e => Region.binds md e && e.on == i) = true) (hne : (z == i) = false) (hs : Region.noSelect ops = true) (hf : Region.free md ops L i = true) (hr : (Region.ready md ops L).contains i = true) (hLz : L.getD z true = false)
    (hQ : ∀ c a w, Q (.panic c) (a.put oi.dst v) w → Q (.panic c) a w) (hy : YieldsIf P ops S oi v a) (hS : S w)
    (h : AnyZ P md ops Q S z n (L.setIfInBounds i true) (a.put oi.dst v) w) : AnyZ P md ops Q S z (n + 1) L a w :=
  AnyZ.first hi hz (by
    obtain ⟨e, he, h⟩ := Array.any_eq_true'.1 hzi
    simp only [Bool.and_eq_true, beq_iff_eq] at h
    exact ⟨e, he, h⟩) (by simpa using hne) (Region.noSelect_spec hs) hQ n L a w (Region.free_spec hi hf) (by simpa using hr) hLz hy hS h

/-- The one operation that may come up comes up. -/
theorem AnyZ.one {i : Nat} {n : Nat} {L : Array Bool} {a : Act} {w : World} (hr : Region.ready md ops L = [i])
    (h : wpOp P ops Q i (fun a' w' => ((L.setIfInBounds i true).getD z true = false → S w') ∧ AnyZ P md ops Q S z n (L.setIfInBounds i true) a' w') a w) : AnyZ P md ops Q S z (n + 1) L a w :=
  ⟨fun h0 => absurd h0 (by simp [hr]), by rw [hr]; simpa using h⟩

/-- The one operation that may come up comes up, handed over behind a letter. -/
theorem AnyZ.step {i : Nat} {n : Nat} {o : Oper} {L : Array Bool} {a : Act} {w : World} (ho : ops[i]? = some o) (hr : Region.ready md ops L = [i])
    (h : ∀ K : Act → World → Prop, Shut (∀ a' w', ((L.setIfInBounds i true).getD z true = false → S w') → AnyZ P md ops Q S z n (L.setIfInBounds i true) a' w' → K a' w') → if Region.wanted o (yielded ops a.tmps) = true then Oper.wp P o a w K Q else K (a.put o.dst undef) w) : AnyZ P md ops Q S z (n + 1) L a w :=
  AnyZ.one hr (wpOp_step ho fun K hK => h K fun a' w' hS hA => hK a' w' ⟨hS, hA⟩)

theorem AnyZ.done {L : Array Bool} {a : Act} {w : World} (hr : Region.ready md ops L = []) (h : Q .normal a w) : ∀ n, AnyZ P md ops Q S z n L a w
  | 0 => ⟨hr, h⟩
  | _ + 1 => ⟨fun _ => h, by rw [hr]; simp⟩

theorem region_z {id : Nat} {a : Act} {w : World} (z : Nat) (hm : P.follows .mixedOrders = true)
    (h : AnyZ P .any ops Q S z ops.size (Array.replicate ops.size false) a { w with drawn := w.drawn + 1 }) : (Code.region id ops true).wp P Q a w :=
  wp_region_any hm (AnyZ.any _ _ _ _ h)
theorem region_any {id : Nat} {a : Act} {w : World} (hm : P.follows .mixedOrders = true) (h : wpAny P .any ops Q ops.size (Array.replicate ops.size false) a w.drew) : (Code.region id ops true).wp P Q a w := wp_region_any hm h
/-- Take an operation first that yields its value in whatever world. -/
theorem any_take {i d : Nat} {oi : Oper} {v : Value} {n : Nat} {L : Array Bool} {a : Act} {w : World} (hi : ops[i]? = some oi) (hd : oi.dst = some d) (hs : Region.noSelect ops = true)
    (hf : Region.free md ops L i = true) (hr : (Region.ready md ops L).contains i = true) (hQ : ∀ c a w, Q (.panic c) (a.put oi.dst v) w → Q (.panic c) a w) (hy : Yields P ops oi v a)
    (h : wpAny P md ops Q n (L.setIfInBounds i true) (a.put (some d) v) w) : wpAny P md ops Q (n + 1) L a w :=
  wpAny_take hi hs hf hr hQ hy (by rw [hd]; exact h)
end
end Go.Proofs.Ytlonhkjplijlcaa
namespace Go.Proofs.Ytlonhkjplijlcaa
open Go.RowKit

/-- The cell of a slice within a slice. -/
abbrev eH (h : Option Addr × Nat × Nat) : List Value := [.slice h.1 h.2.1 h.2.2]
/-- The slice value '.slice A n c' holds slices that read as the lists of xs. -/
structure Rws (w : World) (A : Option Addr) (n c : Nat) (xs : List (List Int)) : Prop where
  len : xs.length = n
  rows : ∃ hs : List (Option Addr × Nat × Nat), At w 1 eH A n c hs ∧ ∀ k, k < n → At w 1 e64 (hs.getD k (none, 0, 0)).1 (hs.getD k (none, 0, 0)).2.1 (hs.getD k (none, 0, 0)).2.2 (xs.getD k [])
section
variable {w w' : World} {A : Option Addr} {n c : Nat} {xs : List (List Int)}
theorem Rws.ext (h : Rws w A n c xs) (he : Ext w w') : Rws w' A n c xs := by
  obtain ⟨hl, hs, h1, h2⟩ := h
  exact ⟨hl, hs, h1.ext he, fun k hk => (h2 k hk).ext he⟩
theorem Rws.bound (h : Rws w A n c xs) : n ≤ 9223372036854775807 := by
  obtain ⟨hl, hs, h1, h2⟩ := h
  exact h1.bound
theorem Rws.addr (h : Rws w A n c xs) (hn : 0 < n) : ∃ b off, A = some ⟨b, off, none⟩ := by
  obtain ⟨hl, hs, h1, h2⟩ := h
  obtain ⟨b, off, e, _⟩ := h1.addr hn
  exact ⟨b, off, e⟩
theorem Rws.row {b off : Nat} (h : Rws w (some ⟨b, off, none⟩) n c xs) {k : Nat} (hk : k < n) :
    ∃ A' n' c', w.cell? ⟨b, off + k, none⟩ = some (.slice A' n' c') ∧ At w 1 e64 A' n' c' (xs.getD k []) := by
  obtain ⟨hl, hs, h1, h2⟩ := h
  have hh := h1.len
  obtain ⟨b', off', e, hc⟩ := h1.cells k _ (List.getElem?_eq_getElem (by omega))
  injection e with e
  injection e with e1 e2
  subst e1 e2
  have := hc 0 _ rfl
  have hg := h2 k hk
  rw [show hs.getD k (none, 0, 0) = hs[k]'(by omega) by simp [List.getD, show k < hs.length by omega]] at hg
  exact ⟨_, _, _, by simpa using this, hg⟩
end
end Go.Proofs.Ytlonhkjplijlcaa
namespace Go.Proofs.Ytlonhkjplijlcaa
open Go.RowKit
section
variable {P : Program} {ops : Array Oper} {Q : Exit → Act → World → Prop} {md : Region.Mode} {S : World → Prop} {z : Nat}
/-- An operation that yields its value in whatever world is taken first, before or behind z. -/
theorem AnyZ.firstP {i : Nat} {oi : Oper} {v : Value} (hi : ops[i]? = some oi) (hne : z ≠ i)
    (hsel : ∀ (j : Nat) (o : Oper) cs b, ops[j]? = some o → o.op ≠ .select cs b)
    (hQ : ∀ c a w, Q (.panic c) (a.put oi.dst v) w → Q (.panic c) a w) :
    ∀ (n : Nat) (L : Array Bool) (a : Act) (w : World),
      (∀ j oj, ops[j]? = some oj → j ≠ i → L.getD j true = false → (∀ e ∈ oj.after, Region.binds md e = true → e.on ≠ i) → oi.apart ops oj = true) →
      i ∈ Region.ready md ops L → YieldsIf P ops (fun _ => True) oi v a → (L.getD z true = false → S w) →
      AnyZ P md ops Q S z n (L.setIfInBounds i true) (a.put oi.dst v) w → AnyZ P md ops Q S z (n + 1) L a w
  | 0, L, a, w, _, hr, hy, hS, H => by
    refine ⟨fun h => absurd hr (by simp [h]), fun j hj => ?_⟩
    by_cases hji : j = i
    · subst hji
      exact hy.wpOp hi trivial ⟨fun h => hS (by rwa [getD_set_ne true (Ne.symm hne)] at h), H⟩
    · exact absurd (ready_mono hj hji) (by simp [H.1])
  | n + 1, L, a, w, hf, hr, hy, hS, H => by
    refine ⟨fun h => absurd hr (by simp [h]), fun j hj => ?_⟩
    by_cases hji : j = i
    · subst hji
      exact hy.wpOp hi trivial ⟨fun h => hS (by rwa [getD_set_ne true (Ne.symm hne)] at h), H⟩
    obtain ⟨hu, oj, hoj, hall⟩ := mem_ready.1 hj
    have hin : ∀ e ∈ oj.after, Region.binds md e = true → e.on ≠ i := fun e he hb hq => by
      have hdone := hall e he hb
      have hopen := (mem_ready.1 hr).1
      rw [hq] at hdone
      by_cases hs : i < L.size
      · simp [hs] at hdone hopen
        rw [hdone] at hopen
        cases hopen
      · simp [hs] at hdone
    have st := wpOp_putIf hoj (hf j oj hoj hji hu hin) (fun cs b => hsel i oi cs b hi) (fun cs b => hsel j oj cs b hoj) hQ hy (H.2 j (ready_mono hj hji))
    refine wpOp_mono (fun a' w' ⟨hy', hS', hr'⟩ => ?_) st
    have hSw : (L.setIfInBounds j true).getD z true = false → S w' := fun h => hS' (by rw [Array.setIfInBounds_comm _ _ (Ne.symm hji), getD_set_ne true (Ne.symm hne)]; exact h)
    refine ⟨hSw, AnyZ.firstP hi hne hsel hQ n _ a' w' (fun k ok hk hki hun hno => hf k ok hk hki ?_ hno) (ready_mono hr (Ne.symm hji)) hy' hSw ?_⟩
    · by_cases hjk : j = k
      · subst hjk; exact hu
      · rwa [getD_set_ne true hjk] at hun
    · rw [Array.setIfInBounds_comm _ _ hji]
      exact hr'
theorem AnyZ.takeP {i : Nat} {oi : Oper} {v : Value} {n : Nat} {L : Array Bool} {a : Act} {w : World} (hi : ops[i]? = some oi)
    (hne : (z == i) = false) (hs : Region.noSelect ops = true) (hf : Region.free md ops L i = true) (hr : (Region.ready md ops L).contains i = true)
    (hQ : ∀ c a w, Q (.panic c) (a.put oi.dst v) w → Q (.panic c) a w) (hy : YieldsIf P ops (fun _ => True) oi v a) (hS : S w)
    (h : AnyZ P md ops Q S z n (L.setIfInBounds i true) (a.put oi.dst v) w) : AnyZ P md ops Q S z (n + 1) L a w :=
  AnyZ.firstP hi (by simpa using hne) (Region.noSelect_spec hs) hQ n L a w (Region.free_spec hi hf) (by simpa using hr) hy (fun _ => hS) h
/-- All operations of a list, one goal each. -/
def AllZ (P : Program) (md : Region.Mode) (ops : Array Oper) (Q : Exit → Act → World → Prop) (S : World → Prop) (z n : Nat) (L : Array Bool) (a : Act) (w : World) : List Nat → Prop
  | [] => True
  | i :: r => wpOp P ops Q i (fun a' w' => ((L.setIfInBounds i true).getD z true = false → S w') ∧ AnyZ P md ops Q S z n (L.setIfInBounds i true) a' w') a w ∧ AllZ P md ops Q S z n L a w r
theorem AllZ.mem {n : Nat} {L : Array Bool} {a : Act} {w : World} : ∀ {r : List Nat}, AllZ P md ops Q S z n L a w r → ∀ i ∈ r, wpOp P ops Q i (fun a' w' => ((L.setIfInBounds i true).getD z true = false → S w') ∧ AnyZ P md ops Q S z n (L.setIfInBounds i true) a' w') a w
  | [], _, i, hi => by cases hi
  | j :: r, h, i, hi => by
    rcases List.mem_cons.1 hi with rfl | hi
    · exact h.1
    · exact h.2.mem i hi
theorem AnyZ.many {n : Nat} {L : Array Bool} {a : Act} {w : World} {i : Nat} {r : List Nat} (hr : Region.ready md ops L = i :: r) (h : AllZ P md ops Q S z n L a w (i :: r)) : AnyZ P md ops Q S z (n + 1) L a w :=
  ⟨fun h0 => absurd h0 (by simp [hr]), by rw [hr]; exact h.mem⟩
theorem AllZ.cons {i : Nat} {n : Nat} {o : Oper} {L : Array Bool} {a : Act} {w : World} {r : List Nat} (ho : ops[i]? = some o)
    (h : ∀ K : Act → World → Prop, Shut (∀ a' w', ((L.setIfInBounds i true).getD z true = false → S w') → AnyZ P md ops Q S z n (L.setIfInBounds i true) a' w' → K a' w') → if Region.wanted o (yielded ops a.tmps) = true then Oper.wp P o a w K Q else K (a.put o.dst undef) w)
    (hr : AllZ P md ops Q S z n L a w r) : AllZ P md ops Q S z n L a w (i :: r) :=
  ⟨wpOp_step ho fun K hK => h K fun a' w' hS hA => hK a' w' ⟨hS, hA⟩, hr⟩
theorem gen_z {n : Nat} {L : Array Bool} {a : Act} {w : World} (h : ∀ W, W = w → AnyZ P md ops Q S z n L a W) : AnyZ P md ops Q S z n L a w := h w rfl
end
theorem At.gr {w w' : World} {row : Option Nat} {p n c : Nat} {l : List Int} (h : At w 1 e64 (some ⟨p, 0, none⟩) n c l) (g : w.grownBy w' row) (hp : some p ≠ row) : At w' 1 e64 (some ⟨p, 0, none⟩) n c l :=
  ⟨h.len, h.le, h.max, h.none_, fun k x hx => by
    obtain ⟨b, off, e, hc⟩ := h.cells k x hx
    injection e with e
    injection e with e1 e2
    subst e1 e2
    exact ⟨p, 0, rfl, fun j u hu => g.cell (hc j u hu) (by simpa using hp)⟩⟩
end Go.Proofs.Ytlonhkjplijlcaa
