/- Trees of boxes in memory. No condition. -/
import Derived.Test.YtoliplgadhdgbaaDoorBoxA
namespace Go.Proofs.YtoliplgadhdgbaaDoor
open Go.RowKit
/-- The cells of a box, and of a node. -/
structure BoxH where
  kind : List UInt8
  form : Int
  dA : Option Addr
  dn : Nat
  dc : Nat
  kA : Option Addr
  kn : Nat
  kc : Nat
deriving Inhabited
structure NodeH where
  box : BoxH
  beg : Nat
  dat : Nat
  en : Nat
  nA : Option Addr
  nn : Nat
  nc : Nat
deriving Inhabited
abbrev eBx (x : BoxH) : List Value := [.string ⟨x.kind.toArray⟩, .int .i64 x.form, .slice x.dA x.dn x.dc, .slice x.kA x.kn x.kc]
abbrev eNd (x : NodeH) : List Value := [.string ⟨x.box.kind.toArray⟩, .int .i64 x.box.form, .slice x.box.dA x.box.dn x.box.dc, .slice x.box.kA x.box.kn x.box.kc, .int .i64 (x.beg : Int), .int .i64 (x.dat : Int), .int .i64 (x.en : Int), .slice x.nA x.nn x.nc]
theorem len_eBx (x : BoxH) : (eBx x).length = 4 := rfl
theorem len_eNd (x : NodeH) : (eNd x).length = 8 := rfl
theorem one_eBx (x : BoxH) : ∀ u ∈ eBx x, u.oneCell' = true := by
  intro u hu
  simp at hu
  rcases hu with rfl | rfl | rfl | rfl <;> rfl
theorem one_eNd (x : NodeH) : ∀ u ∈ eNd x, u.oneCell' = true := by
  intro u hu
  simp at hu
  rcases hu with rfl | rfl | rfl | rfl | rfl | rfl | rfl | rfl <;> rfl
/-- An address lies in good blocks. -/
def InG (G : Nat → Prop) (A : Option Addr) : Prop := ∀ a, A = some a → G a.block
theorem InG.mono {G H : Nat → Prop} {A : Option Addr} (h : InG G A) (hi : ∀ k, G k → H k) : InG H A := fun a ha => hi _ (h a ha)
theorem At.good {α : Type} {w w' : World} {sz : Nat} {enc : α → List Value} {A : Option Addr} {n c : Nat} {xs : List α} {G : Nat → Prop} (h : At w sz enc A n c xs) (hA : InG G A) (hG : ∀ k, G k → w'.heap[k]? = w.heap[k]?) : At w' sz enc A n c xs :=
  ⟨h.len, h.le, h.max, h.none_, fun k x hx => by
    obtain ⟨b, off, e, hc⟩ := h.cells k x hx
    refine ⟨b, off, e, fun j u hu => ?_⟩
    have h3 := hc j u hu
    have h4 := hG b (hA _ e)
    unfold World.cell? at h3 ⊢
    simp only at h3 ⊢
    rw [h4]
    exact h3⟩
theorem At.blk_lt {α : Type} {w : World} {sz : Nat} {enc : α → List Value} {A : Option Addr} {n c : Nat} {xs : List α} (h : At w sz enc A n c xs) (hsz : ∀ x, (enc x).length = sz) (h0 : 0 < sz) (hn : 0 < n) : ∀ a, A = some a → a.block < w.heap.size := fun a ha => by
  subst ha
  obtain ⟨b1, o1, e, hc⟩ := h.addr hn
  have hl := h.len
  have hk : 0 < xs.length := by omega
  have := cell_lt (hc 0 hk 0 _ (List.getElem?_eq_getElem (by rw [hsz]; exact h0)))
  injection e with e
  rw [e]
  simpa using this
/-- A box that is told but for its kids. -/
def BxHd (w : World) (G : Nat → Prop) (y : BoxH) (x : BoxT) : Prop := y.kind = x.kind ∧ y.form = x.form ∧ At w 1 e8 y.dA y.dn y.dc x.data ∧ InG G y.dA
/-- A slice that reads as boxes. -/
inductive BxsAt (w : World) (G : Nat → Prop) : Option Addr → Nat → Nat → List BoxT → Prop
  | mk {A : Option Addr} {n c : Nat} (hs : List BoxH) (l : List BoxT) (h : At w 4 eBx A n c hs) (hg : InG G A) (hl : hs.length = l.length)
      (h1 : ∀ (i : Nat) (y : BoxH) (x : BoxT), hs[i]? = some y → l[i]? = some x → BxHd w G y x) (h2 : ∀ (i : Nat) (y : BoxH) (x : BoxT), hs[i]? = some y → l[i]? = some x → BxsAt w G y.kA y.kn y.kc x.kids) : BxsAt w G A n c l
def BxOk (w : World) (G : Nat → Prop) (y : BoxH) (x : BoxT) : Prop := BxHd w G y x ∧ BxsAt w G y.kA y.kn y.kc x.kids
theorem BxHd.good {w w' : World} {G H : Nat → Prop} {y : BoxH} {x : BoxT} (h : BxHd w G y x) (hG : ∀ k, G k → w'.heap[k]? = w.heap[k]?) (hi : ∀ k, G k → H k) : BxHd w' H y x :=
  ⟨h.1, h.2.1, h.2.2.1.good h.2.2.2 hG, h.2.2.2.mono hi⟩
theorem BxsAt.good {w w' : World} {G H : Nat → Prop} (hG : ∀ k, G k → w'.heap[k]? = w.heap[k]?) (hi : ∀ k, G k → H k) {A : Option Addr} {n c : Nat} {l : List BoxT} (h : BxsAt w G A n c l) : BxsAt w' H A n c l := by
  induction h with
  | mk hs l h hg hl h1 _ ih => exact .mk hs l (h.good hg hG) (hg.mono hi) hl (fun i y x hy hx => (h1 i y x hy hx).good hG hi) ih
theorem BxOk.good {w w' : World} {G H : Nat → Prop} {y : BoxH} {x : BoxT} (h : BxOk w G y x) (hG : ∀ k, G k → w'.heap[k]? = w.heap[k]?) (hi : ∀ k, G k → H k) : BxOk w' H y x :=
  ⟨h.1.good hG hi, h.2.good hG hi⟩
theorem BxsAt.nil (w : World) (G : Nat → Prop) : BxsAt w G none 0 0 [] :=
  .mk [] [] (At.nil _ _ _) (fun a h => by cases h) rfl (fun i y x hy _ => by simp at hy) (fun i y x hy _ => by simp at hy)
theorem BxsAt.len {w : World} {G : Nat → Prop} {A : Option Addr} {n c : Nat} {l : List BoxT} (h : BxsAt w G A n c l) : l.length = n := by
  cases h with
  | mk hs l h hg hl _ _ => rw [← hl]; exact h.len
/-- A node that is told but for its kids; a slice that reads as nodes. -/
def NdHd (w : World) (b : List UInt8) (G : Nat → Prop) (y : NodeH) (x : NodeT) : Prop := BxOk w G y.box (boxOf b x) ∧ y.beg = x.beg ∧ y.dat = x.dat ∧ y.en = x.en
inductive NdsAt (w : World) (b : List UInt8) (G : Nat → Prop) : Option Addr → Nat → Nat → List NodeT → Prop
  | mk {A : Option Addr} {n c : Nat} (hs : List NodeH) (l : List NodeT) (h : At w 8 eNd A n c hs) (hg : InG G A) (hl : hs.length = l.length)
      (h1 : ∀ (i : Nat) (y : NodeH) (x : NodeT), hs[i]? = some y → l[i]? = some x → NdHd w b G y x) (h2 : ∀ (i : Nat) (y : NodeH) (x : NodeT), hs[i]? = some y → l[i]? = some x → NdsAt w b G y.nA y.nn y.nc x.kids) : NdsAt w b G A n c l
def NdOk (w : World) (b : List UInt8) (G : Nat → Prop) (y : NodeH) (x : NodeT) : Prop := NdHd w b G y x ∧ NdsAt w b G y.nA y.nn y.nc x.kids
theorem NdHd.good {w w' : World} {b : List UInt8} {G H : Nat → Prop} {y : NodeH} {x : NodeT} (h : NdHd w b G y x) (hG : ∀ k, G k → w'.heap[k]? = w.heap[k]?) (hi : ∀ k, G k → H k) : NdHd w' b H y x :=
  ⟨h.1.good hG hi, h.2⟩
theorem NdsAt.good {w w' : World} {b : List UInt8} {G H : Nat → Prop} (hG : ∀ k, G k → w'.heap[k]? = w.heap[k]?) (hi : ∀ k, G k → H k) {A : Option Addr} {n c : Nat} {l : List NodeT} (h : NdsAt w b G A n c l) : NdsAt w' b H A n c l := by
  induction h with
  | mk hs l h hg hl h1 _ ih => exact .mk hs l (h.good hg hG) (hg.mono hi) hl (fun i y x hy hx => (h1 i y x hy hx).good hG hi) ih
theorem NdOk.good {w w' : World} {b : List UInt8} {G H : Nat → Prop} {y : NodeH} {x : NodeT} (h : NdOk w b G y x) (hG : ∀ k, G k → w'.heap[k]? = w.heap[k]?) (hi : ∀ k, G k → H k) : NdOk w' b H y x :=
  ⟨h.1.good hG hi, h.2.good hG hi⟩
theorem NdsAt.nil (w : World) (b : List UInt8) (G : Nat → Prop) : NdsAt w b G none 0 0 [] :=
  .mk [] [] (At.nil _ _ _) (fun a h => by cases h) rfl (fun i y x hy _ => by simp at hy) (fun i y x hy _ => by simp at hy)
/-- Many elements that are right, in a row that the call owns: their blocks are others than the row's. -/
structure Rw {α β : Type} (w : World) (B : Nat) (t : TypeId) (sz : Nat) (enc : α → List Value) (ok : (Nat → Prop) → α → β → Prop) (v : Value) (hs : List α) (l : List β) : Prop where
  own : Own w B t sz enc v hs
  len : hs.length = l.length
  els : ∃ G : Nat → Prop, (∀ k, G k → B ≤ k ∧ k < w.heap.size ∧ v.ownBlock ≠ some k) ∧ ∀ (i : Nat) (y : α) (x : β), hs[i]? = some y → l[i]? = some x → ok G y x
theorem get_snoc {α : Type} {l : List α} {x y : α} {i : Nat} (h : (l ++ [x])[i]? = some y) : l[i]? = some y ∨ (i = l.length ∧ y = x) := by
  rw [List.getElem?_append] at h
  split at h
  · exact .inl h
  · rename_i hl
    right
    have : i - l.length = 0 := by
      rcases Nat.eq_zero_or_pos (i - l.length) with h0 | h0
      · exact h0
      · rw [List.getElem?_eq_none (by simp; omega)] at h; cases h
    rw [this] at h
    simp at h
    exact ⟨by omega, h.symm⟩
theorem get_lt {α : Type} {l : List α} {y : α} {i : Nat} (h : l[i]? = some y) : i < l.length := by
  rcases Nat.lt_or_ge i l.length with h1 | h1
  · exact h1
  · rw [List.getElem?_eq_none h1] at h; cases h
theorem Tw.new {a b c : World} {o q : Nat} (h : Tw a b o none) (k : Tw b c q none) (hq : a.heap.size ≤ q) : Tw a c o none :=
  ⟨k.os.trans h.os, k.tape.trans h.tape, k.output.trans h.output, Nat.le_trans h.size k.size, fun j hj ho hr => (k.block j (Nat.lt_of_lt_of_le hj h.size) (by omega) hr).trans (h.block j hj ho hr)⟩
theorem Tw.row {a b c : World} {o : Nat} {row : Option Nat} (h : Tw a b o none) (k : b.grownBy c row) (hq : ∀ g, row = some g → a.heap.size ≤ g ∨ g = o) : Tw a c o none :=
  ⟨k.os.trans h.os, k.tape.trans h.tape, k.output.trans h.output, Nat.le_trans h.size k.size, fun j hj ho hr => (k.block j (Nat.lt_of_lt_of_le hj h.size) (fun e => by have := hq j e.symm; omega)).trans (h.block j hj ho hr)⟩
theorem Rw.tw {w w' : World} {b : List UInt8} {B o : Nat} {t : TypeId} {v : Value} {hs : List NodeH} {l : List NodeT} (h : Rw w B t 8 eNd (NdOk w b) v hs l) (hT : Tw w w' o none) (ho : o < B) : Rw w' B t 8 eNd (NdOk w' b) v hs l := by
  obtain ⟨h1, h2, G, h3, h4⟩ := h
  refine ⟨h1.tw hT (fun e => by have := (h1.lt o e).1; omega) (fun g hg e => by cases e), h2, G, fun k hk => ⟨(h3 k hk).1, Nat.lt_of_lt_of_le (h3 k hk).2.1 hT.size, (h3 k hk).2.2⟩, fun i y x hy hx => (h4 i y x hy hx).good (fun k hk => hT.block k (h3 k hk).2.1 (by have := (h3 k hk).1; omega) (by simp)) (fun _ hk => hk)⟩
theorem Rw.snoc {w wa w' : World} {b : List UInt8} {B : Nat} {t : TypeId} {v v' : Value} {hs : List NodeH} {l : List NodeT} {y : NodeH} {x : NodeT} {G' : Nat → Prop} (h : Rw w B t 8 eNd (NdOk w b) v hs l) (hy : NdOk w b G' y x)
    (hG : ∀ k, G' k → B ≤ k ∧ k < w.heap.size ∧ v.ownBlock ≠ some k) (he : Ext w wa) (ho : Own w' B t 8 eNd v' (hs ++ [y])) (hg : wa.grownBy w' v.ownBlock) (hr : v'.ownBlock = v.ownBlock ∨ v'.ownBlock = some wa.heap.size) :
    Rw w' B t 8 eNd (NdOk w' b) v' (hs ++ [y]) (l ++ [x]) := by
  obtain ⟨h1, h2, G, h3, h4⟩ := h
  have hsz := he.size
  have hb : ∀ k, k < w.heap.size → v.ownBlock ≠ some k → w'.heap[k]? = w.heap[k]? := fun k hk hn => (hg.block k (by omega) (fun e => hn e.symm)).trans (he.block k hk)
  refine ⟨ho, by simp [h2], fun k => G k ∨ G' k, fun k hk => ?_, fun i y' x' hy' hx' => ?_⟩
  · have hk2 : B ≤ k ∧ k < w.heap.size ∧ v.ownBlock ≠ some k := by
      rcases hk with hk | hk
      · exact h3 k hk
      · exact hG k hk
    refine ⟨hk2.1, by have := hg.size; omega, ?_⟩
    rcases hr with hr | hr
    · rw [hr]; exact hk2.2.2
    · rw [hr]; intro e; injection e with e; omega
  · rcases get_snoc hy' with hy1 | ⟨hy1, rfl⟩
    · have hi := get_lt hy1
      have hx1 : l[i]? = some x' := by
        rw [List.getElem?_append_left (by omega)] at hx'
        exact hx'
      exact (h4 i y' x' hy1 hx1).good (fun k hk => hb k (h3 k hk).2.1 (h3 k hk).2.2) (fun _ hk => .inl hk)
    · have hx1 : x' = x := by
        rcases get_snoc hx' with hx1 | ⟨_, hx1⟩
        · have := get_lt hx1; omega
        · exact hx1
      subst hx1
      exact hy.good (fun k hk => hb k (hG k hk).2.1 (hG k hk).2.2) (fun _ hk => .inr hk)
/-- A fresh block that reads as one element. -/
theorem At.newE {α : Type} {sz : Nat} {enc : α → List Value} (w : World) (x : α) (cs : Array Value) (t : TypeId) (hu : enc x = cs.toList) : At (w.alloc (.cells cs t)) sz enc (some ⟨w.heap.size, 0, none⟩) 1 1 [x] :=
  ⟨rfl, Nat.le_refl _, by unfold maxLen; omega, fun h => (by cases h), fun k z hz => ⟨_, _, rfl, fun j v hv => by
    match k, hz with
    | 0, hz =>
      simp at hz; subst hz
      rw [hu] at hv
      have := (Blk.new w t cs).cell j
      rw [Nat.zero_mul, Nat.add_zero, Nat.zero_add, this]
      simpa using hv
    | k + 1, hz => simp at hz⟩⟩
/-- The last element of an owned row is written cell by cell. -/
theorem Own.last {α : Type} {w : World} {base : Nat} {t : TypeId} {sz : Nat} {enc : α → List Value} {g n c : Nat} {bs : List α} {z : α} (hsz : ∀ x, (enc x).length = sz) (h : Own w base t sz enc (.slice (some ⟨g, 0, none⟩) (n + 1) c) (bs ++ [z])) :
    ∃ cur : Array Value, Blk w g t cur ∧ base ≤ g ∧ bs.length = n ∧ n + 1 ≤ c ∧ c ≤ maxLen ∧ cur.size = c * sz ∧ cur.toList.take ((n + 1) * sz) = bs.flatMap enc ++ enc z := by
  have hl := h.len hsz
  rcases h.2 with ⟨h1, _⟩ | ⟨g', cap, cur, h1, hb, hg, hc, hm, hs, ht⟩
  · cases h1
  · injection h1 with h1 h2 h3
    injection h1 with h1
    injection h1 with h1
    subst h1 h3
    simp only [List.length_append, List.length_singleton] at hl hc ht
    have hbn : bs.length = n := by omega
    rw [hbn] at hc ht
    exact ⟨cur, hg, hb, hbn, hc, hm, hs, by rw [ht, List.flatMap_append]; simp⟩
theorem Own.of_last {α : Type} {w : World} {base : Nat} {t : TypeId} {sz : Nat} {enc : α → List Value} {g n c : Nat} {bs : List α} {y : α} {cur : Array Value} (hb : Blk w g t cur) (h0 : base ≤ g) (h1 : bs.length = n) (h2 : n + 1 ≤ c) (h3 : c ≤ maxLen) (h4 : cur.size = c * sz)
    (h5 : cur.toList.take ((n + 1) * sz) = bs.flatMap enc ++ enc y) (hsz : ∀ x, (enc x).length = sz) : Own w base t sz enc (.slice (some ⟨g, 0, none⟩) (n + 1) c) (bs ++ [y]) := by
  have hl : (bs ++ [y]).length = n + 1 := by simp [h1]
  refine ⟨?_, .inr ⟨g, c, cur, by rw [hl], h0, hb, by rw [hl]; exact h2, h3, h4, by rw [hl, h5, List.flatMap_append]; simp⟩⟩
  exact flat_len hsz _
theorem Own.setLast4 {α : Type} {w : World} {base : Nat} {t : TypeId} {enc : α → List Value} {g n c : Nat} {bs : List α} {z y : α} {u0 u1 u2 u3 : Value} (hsz : ∀ x, (enc x).length = 4) (hy : enc y = [u0, u1, u2, u3])
    (h : Own w base t 4 enc (.slice (some ⟨g, 0, none⟩) (n + 1) c) (bs ++ [z])) :
    Own ((((w.setCell ⟨g, n * 4, none⟩ u0).setCell ⟨g, n * 4 + 1, none⟩ u1).setCell ⟨g, n * 4 + 2, none⟩ u2).setCell ⟨g, n * 4 + 3, none⟩ u3) base t 4 enc (.slice (some ⟨g, 0, none⟩) (n + 1) c) (bs ++ [y]) := by
  obtain ⟨cur, hb, h0, h1, h2, h3, h4, h5⟩ := h.last hsz
  refine Own.of_last ((((hb.set_ _ u0).set_ _ u1).set_ _ u2).set_ _ u3) h0 h1 h2 h3 (by simp [h4]) ?_ hsz
  have hf := flat_len hsz bs
  obtain ⟨z0, z1, z2, z3, hz⟩ : ∃ z0 z1 z2 z3, enc z = [z0, z1, z2, z3] := by
    have := hsz z
    match enc z, this with
    | [a, b, c, d], _ => exact ⟨a, b, c, d, rfl⟩
  simp only [Array.toList_setIfInBounds, List.take_set, h5, hz, hy]
  have e : (bs.flatMap enc).length = n * 4 := by rw [hf, h1]
  simp [e]
theorem Own.lastCells {α : Type} {w : World} {base : Nat} {t : TypeId} {sz : Nat} {enc : α → List Value} {g n c : Nat} {bs : List α} {z : α} (hsz : ∀ x, (enc x).length = sz) (h : Own w base t sz enc (.slice (some ⟨g, 0, none⟩) (n + 1) c) (bs ++ [z])) {i : Nat} {u : Value} (hu : (enc z)[i]? = some u) :
    w.cell? ⟨g, n * sz + i, none⟩ = some u ∧ w.frozen? ⟨g, n * sz + i, none⟩ = false := by
  obtain ⟨cur, hb, h0, h1, h2, h3, h4, h5⟩ := h.last hsz
  have hf := flat_len hsz bs
  have hi := get_lt hu
  rw [hsz] at hi
  refine ⟨?_, hb.frozen _⟩
  rw [hb.cell]
  have e : (cur.toList.take ((n + 1) * sz))[n * sz + i]? = some u := by
    rw [h5, List.getElem?_append_right (by rw [hf, h1]; omega), hf, h1, show n * sz + i - n * sz = i by omega]
    exact hu
  rw [List.getElem?_take, if_pos (by rw [Nat.add_mul]; omega)] at e
  simpa using e
end Go.Proofs.YtoliplgadhdgbaaDoor
