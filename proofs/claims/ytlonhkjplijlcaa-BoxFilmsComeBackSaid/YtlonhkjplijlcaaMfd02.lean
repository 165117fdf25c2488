/- Several texts in one: Trees of boxes in memory. No condition; Walks: slices.Clone and slices.Equal of samples. Conditions as stated; Names: which strings are names, and walks of the functions that ask. No condition but that a string is no longer than a string can be; Films in plain words and in memory: tracks, what is wrong with them, bytes of tracks. No condition; Slice expressions of a slice that reads as a list: one equation, whatever its capacity. Conditions: bounds as stated. -/
import Derived.Test.YtlonhkjplijlcaaMfd01
import Derived.Test.YtlonhkjplijlcaaMfd00
import Derived.Test.YtlonhkjplijlcaaProg
namespace Go.Proofs.Ytlonhkjplijlcaa
open Go.RowKit
structure BoxH where
  kind : List UInt8
  form : Int
  dA : Option Addr
  dn : Nat
  dc : Nat
  kA : Option Addr
  kn : Nat
  kc : Nat
deriving Inhabited
structure NodeH where
  box : BoxH
  beg : Nat
  dat : Nat
  en : Nat
  nA : Option Addr
  nn : Nat
  nc : Nat
deriving Inhabited
abbrev eBx (x : BoxH) : List Value := [.string ⟨x.kind.toArray⟩, .int .i64 x.form, .slice x.dA x.dn x.dc, .slice x.kA x.kn x.kc]
abbrev eNd (x : NodeH) : List Value := [.string ⟨x.box.kind.toArray⟩, .int .i64 x.box.form, .slice x.box.dA x.box.dn x.box.dc, .slice x.box.kA x.box.kn x.box.kc, .int .i64 (x.beg : Int), .int .i64 (x.dat : Int), .int .i64 (x.en : Int), .slice x.nA x.nn x.nc]
theorem len_eBx (x : BoxH) : (eBx x).length = 4 := rfl
theorem len_eNd (x : NodeH) : (eNd x).length = 8 := rfl
theorem one_eBx (x : BoxH) : ∀ u ∈ eBx x, u.oneCell' = true := by
  intro u hu
  simp at hu
  rcases hu with rfl | rfl | rfl | rfl <;> rfl
theorem one_eNd (x : NodeH) : ∀ u ∈ eNd x, u.oneCell' = true := by
  intro u hu
  simp at hu
  rcases hu with rfl | rfl | rfl | rfl | rfl | rfl | rfl | rfl <;> rfl
def InG (G : Nat → Prop) (A : Option Addr) : Prop := ∀ a, A = some a → G a.block
theorem InG.mono {G H : Nat → Prop} {A : Option Addr} (h : InG G A) (hi : ∀ k, G k → H k) : InG H A := fun a ha => hi _ (h a ha)
theorem At.good {α : Type} {w w' : World} {sz : Nat} {enc : α → List Value} {A : Option Addr} {n c : Nat} {xs : List α} {G : Nat → Prop} (h : At w sz enc A n c xs) (hA : InG G A) (hG : ∀ k, G k → w'.heap[k]? = w.heap[k]?) : At w' sz enc A n c xs :=
  ⟨h.len, h.le, h.max, h.none_, fun k x hx => by
    obtain ⟨b, off, e, hc⟩ := h.cells k x hx
    refine ⟨b, off, e, fun j u hu => ?_⟩
    have h3 := hc j u hu
    have h4 := hG b (hA _ e)
    unfold World.cell? at h3 ⊢
    simp only at h3 ⊢
    rw [h4]
    exact h3⟩
theorem At.blk_lt {α : Type} {w : World} {sz : Nat} {enc : α → List Value} {A : Option Addr} {n c : Nat} {xs : List α} (h : At w sz enc A n c xs) (hsz : ∀ x, (enc x).length = sz) (h0 : 0 < sz) (hn : 0 < n) : ∀ a, A = some a → a.block < w.heap.size := fun a ha => by
  subst ha
  obtain ⟨b1, o1, e, hc⟩ := h.addr hn
  have hl := h.len
  have hk : 0 < xs.length := by omega
  have := cell_lt (hc 0 hk 0 _ (List.getElem?_eq_getElem (by rw [hsz]; exact h0)))
  injection e with e
  rw [e]
  simpa using this
def BxHd (w : World) (G : Nat → Prop) (y : BoxH) (x : BoxT) : Prop := y.kind = x.kind ∧ y.form = x.form ∧ At w 1 e8 y.dA y.dn y.dc x.data ∧ InG G y.dA
inductive BxsAt (w : World) (G : Nat → Prop) : Option Addr → Nat → Nat → List BoxT → Prop
  | mk {A : Option Addr} {n c : Nat} (hs : List BoxH) (l : List BoxT) (h : At w 4 eBx A n c hs) (hg : InG G A) (hl : hs.length = l.length)
      (h1 : ∀ (i : Nat) (y : BoxH) (x : BoxT), hs[i]? = some y → l[i]? = some x → BxHd w G y x) (h2 : ∀ (i : Nat) (y : BoxH) (x : BoxT), hs[i]? = some y → l[i]? = some x → BxsAt w G y.kA y.kn y.kc x.kids) : BxsAt w G A n c l
def BxOk (w : World) (G : Nat → Prop) (y : BoxH) (x : BoxT) : Prop := BxHd w G y x ∧ BxsAt w G y.kA y.kn y.kc x.kids
theorem BxHd.good {w w' : World} {G H : Nat → Prop} {y : BoxH} {x : BoxT} (h : BxHd w G y x) (hG : ∀ k, G k → w'.heap[k]? = w.heap[k]?) (hi : ∀ k, G k → H k) : BxHd w' H y x :=
  ⟨h.1, h.2.1, h.2.2.1.good h.2.2.2 hG, h.2.2.2.mono hi⟩
theorem BxsAt.good {w w' : World} {G H : Nat → Prop} (hG : ∀ k, G k → w'.heap[k]? = w.heap[k]?) (hi : ∀ k, G k → H k) {A : Option Addr} {n c : Nat} {l : List BoxT} (h : BxsAt w G A n c l) : BxsAt w' H A n c l := by
  induction h with
  | mk hs l h hg hl h1 _ ih => exact .mk hs l (h.good hg hG) (hg.mono hi) hl (fun i y x hy hx => (h1 i y x hy hx).good hG hi) ih
theorem BxOk.good {w w' : World} {G H : Nat → Prop} {y : BoxH} {x : BoxT} (h : BxOk w G y x) (hG : ∀ k, G k → w'.heap[k]? = w.heap[k]?) (hi : ∀ k, G k → H k) : BxOk w' H y x :=
  ⟨h.1.good hG hi, h.2.good hG hi⟩
theorem BxsAt.nil (w : World) (G : Nat → Prop) : BxsAt w G none 0 0 [] :=
  .mk [] [] (At.nil _ _ _) (fun a h => by cases h) rfl (fun i y x hy _ => by simp at hy) (fun i y x hy _ => by simp at hy)
theorem BxsAt.len {w : World} {G : Nat → Prop} {A : Option Addr} {n c : Nat} {l : List BoxT} (h : BxsAt w G A n c l) : l.length = n := by
  cases h with
  | mk hs l h hg hl _ _ => rw [← hl]; exact h.len
def NdHd (w : World) (b : List UInt8) (G : Nat → Prop) (y : NodeH) (x : NodeT) : Prop := BxOk w G y.box (boxOf b x) ∧ y.beg = x.beg ∧ y.dat = x.dat ∧ y.en = x.en
inductive NdsAt (w : World) (b : List UInt8) (G : Nat → Prop) : Option Addr → Nat → Nat → List NodeT → Prop
  | mk {A : Option Addr} {n c : Nat} (hs : List NodeH) (l : List NodeT) (h : At w 8 eNd A n c hs) (hg : InG G A) (hl : hs.length = l.length)
      (h1 : ∀ (i : Nat) (y : NodeH) (x : NodeT), hs[i]? = some y → l[i]? = some x → NdHd w b G y x) (h2 : ∀ (i : Nat) (y : NodeH) (x : NodeT), hs[i]? = some y → l[i]? = some x → NdsAt w b G y.nA y.nn y.nc x.kids) : NdsAt w b G A n c l
def NdOk (w : World) (b : List UInt8) (G : Nat → Prop) (y : NodeH) (x : NodeT) : Prop := NdHd w b G y x ∧ NdsAt w b G y.nA y.nn y.nc x.kids
theorem NdHd.good {w w' : World} {b : List UInt8} {G H : Nat → Prop} {y : NodeH} {x : NodeT} (h : NdHd w b G y x) (hG : ∀ k, G k → w'.heap[k]? = w.heap[k]?) (hi : ∀ k, G k → H k) : NdHd w' b H y x :=
  ⟨h.1.good hG hi, h.2⟩
theorem NdsAt.good {w w' : World} {b : List UInt8} {G H : Nat → Prop} (hG : ∀ k, G k → w'.heap[k]? = w.heap[k]?) (hi : ∀ k, G k → H k) {A : Option Addr} {n c : Nat} {l : List NodeT} (h : NdsAt w b G A n c l) : NdsAt w' b H A n c l := by
  induction h with
  | mk hs l h hg hl h1 _ ih => exact .mk hs l (h.good hg hG) (hg.mono hi) hl (fun i y x hy hx => (h1 i y x hy hx).good hG hi) ih
theorem NdOk.good {w w' : World} {b : List UInt8} {G H : Nat → Prop} {y : NodeH} {x : NodeT} (h : NdOk w b G y x) (hG : ∀ k, G k → w'.heap[k]? = w.heap[k]?) (hi : ∀ k, G k → H k) : NdOk w' b H y x :=
  ⟨h.1.good hG hi, h.2.good hG hi⟩
theorem NdsAt.nil (w : World) (b : List UInt8) (G : Nat → Prop) : NdsAt w b G none 0 0 [] :=
  .mk [] [] (At.nil _ _ _) (fun a h => by cases h) rfl (fun i y x hy _ => by simp at hy) (fun i y x hy _ => by simp at hy)
structure Rw {α β : Type} (w : World) (B : Nat) (t : TypeId) (sz : Nat) (enc : α → List Value) (ok : (Nat → Prop) → α → β → Prop) (v : Value) (hs : List α) (l : List β) : Prop where
  own : Own w B t sz enc v hs
  len : hs.length = l.length
  els : ∃ G : Nat → Prop, (∀ k, G k → B ≤ k ∧ k < w.heap.size ∧ v.ownBlock ≠ some k) ∧ ∀ (i : Nat) (y : α) (x : β), hs[i]? = some y → l[i]? = some x → ok G y x
theorem get_snoc {α : Type} {l : List α} {x y : α} {i : Nat} (h : (l ++ [x])[i]? = some y) : l[i]? = some y ∨ (i = l.length ∧ y = x) := by
  rw [List.getElem?_append] at h
  split at h
  · exact .inl h
  · rename_i hl
    right
    have : i - l.length = 0 := by
      rcases Nat.eq_zero_or_pos (i - l.length) with h0 | h0
      · exact h0
      · rw [List.getElem?_eq_none (by simp; omega)] at h; cases h
    rw [this] at h
    simp at h
    exact ⟨by omega, h.symm⟩
theorem get_lt {α : Type} {l : List α} {y : α} {i : Nat} (h : l[i]? = some y) : i < l.length := by
  rcases Nat.lt_or_ge i l.length with h1 | h1
  · exact h1
  · rw [List.getElem?_eq_none h1] at h; cases h
theorem Tw.new {a b c : World} {o q : Nat} (h : Tw a b o none) (k : Tw b c q none) (hq : a.heap.size ≤ q) : Tw a c o none :=
  ⟨k.os.trans h.os, k.tape.trans h.tape, k.output.trans h.output, Nat.le_trans h.size k.size, fun j hj ho hr => (k.block j (Nat.lt_of_lt_of_le hj h.size) (by omega) hr).trans (h.block j hj ho hr)⟩
theorem Tw.row {a b c : World} {o : Nat} {row : Option Nat} (h : Tw a b o none) (k : b.grownBy c row) (hq : ∀ g, row = some g → a.heap.size ≤ g ∨ g = o) : Tw a c o none :=
  ⟨k.os.trans h.os, k.tape.trans h.tape, k.output.trans h.output, Nat.le_trans h.size k.size, fun j hj ho hr => (k.block j (Nat.lt_of_lt_of_le hj h.size) (fun e => by have := hq j e.symm; omega)).trans (h.block j hj ho hr)⟩
theorem Rw.tw {w w' : World} {b : List UInt8} {B o : Nat} {t : TypeId} {v : Value} {hs : List NodeH} {l : List NodeT} (h : Rw w B t 8 eNd (NdOk w b) v hs l) (hT : Tw w w' o none) (ho : o < B) : Rw w' B t 8 eNd (NdOk w' b) v hs l := by
  obtain ⟨h1, h2, G, h3, h4⟩ := h
  refine ⟨h1.tw hT (fun e => by have := (h1.lt o e).1; omega) (fun g hg e => by cases e), h2, G, fun k hk => ⟨(h3 k hk).1, Nat.lt_of_lt_of_le (h3 k hk).2.1 hT.size, (h3 k hk).2.2⟩, fun i y x hy hx => (h4 i y x hy hx).good (fun k hk => hT.block k (h3 k hk).2.1 (by have := (h3 k hk).1; omega) (by simp)) (fun _ hk => hk)⟩
theorem Rw.snoc {w wa w' : World} {b : List UInt8} {B : Nat} {t : TypeId} {v v' : Value} {hs : List NodeH} {l : List NodeT} {y : NodeH} {x : NodeT} {G' : Nat → Prop} (h : Rw w B t 8 eNd (NdOk w b) v hs l) (hy : NdOk w b G' y x)
    (hG : ∀ k, G' k → B ≤ k ∧ k < w.heap.size ∧ v.ownBlock ≠ some k) (he : Ext w wa) (ho : Own w' B t 8 eNd v' (hs ++ [y])) (hg : wa.grownBy w' v.ownBlock) (hr : v'.ownBlock = v.ownBlock ∨ v'.ownBlock = some wa.heap.size) :
    Rw w' B t 8 eNd (NdOk w' b) v' (hs ++ [y]) (l ++ [x]) := by
  obtain ⟨h1, h2, G, h3, h4⟩ := h
  have hsz := he.size
  have hb : ∀ k, k < w.heap.size → v.ownBlock ≠ some k → w'.heap[k]? = w.heap[k]? := fun k hk hn => (hg.block k (by omega) (fun e => hn e.symm)).trans (he.block k hk)
  refine ⟨ho, by simp [h2], fun k => G k ∨ G' k, fun k hk => ?_, fun i y' x' hy' hx' => ?_⟩
  · have hk2 : B ≤ k ∧ k < w.heap.size ∧ v.ownBlock ≠ some k := by
      rcases hk with hk | hk
      · exact h3 k hk
      · exact hG k hk
    refine ⟨hk2.1, by have := hg.size; omega, ?_⟩
    rcases hr with hr | hr
    · rw [hr]; exact hk2.2.2
    · rw [hr]; intro e; injection e with e; omega
  · rcases get_snoc hy' with hy1 | ⟨hy1, rfl⟩
    · have hi := get_lt hy1
      have hx1 : l[i]? = some x' := by
        rw [List.getElem?_append_left (by omega)] at hx'
        exact hx'
      exact (h4 i y' x' hy1 hx1).good (fun k hk => hb k (h3 k hk).2.1 (h3 k hk).2.2) (fun _ hk => .inl hk)
    · have hx1 : x' = x := by
        rcases get_snoc hx' with hx1 | ⟨_, hx1⟩
        · have := get_lt hx1; omega
        · exact hx1
      subst hx1
      exact hy.good (fun k hk => hb k (hG k hk).2.1 (hG k hk).2.2) (fun _ hk => .inr hk)
theorem At.newE {α : Type} {sz : Nat} {enc : α → List Value} (w : World) (x : α) (cs : Array Value) (t : TypeId) (hu : enc x = cs.toList) : At (w.alloc (.cells cs t)) sz enc (some ⟨w.heap.size, 0, none⟩) 1 1 [x] :=
  ⟨rfl, Nat.le_refl _, by unfold maxLen; omega, fun h => (by cases h), fun k z hz => ⟨_, _, rfl, fun j v hv => by
    match k, hz with
    | 0, hz =>
      simp at hz; subst hz
      rw [hu] at hv
      have := (Blk.new w t cs).cell j
      rw [Nat.zero_mul, Nat.add_zero, Nat.zero_add, this]
      simpa using hv
    | k + 1, hz => simp at hz⟩⟩
theorem Own.last {α : Type} {w : World} {base : Nat} {t : TypeId} {sz : Nat} {enc : α → List Value} {g n c : Nat} {bs : List α} {z : α} (hsz : ∀ x, (enc x).length = sz) (h : Own w base t sz enc (.slice (some ⟨g, 0, none⟩) (n + 1) c) (bs ++ [z])) :
    ∃ cur : Array Value, Blk w g t cur ∧ base ≤ g ∧ bs.length = n ∧ n + 1 ≤ c ∧ c ≤ maxLen ∧ cur.size = c * sz ∧ cur.toList.take ((n + 1) * sz) = bs.flatMap enc ++ enc z := by
  have hl := h.len hsz
  rcases h.2 with ⟨h1, _⟩ | ⟨g', cap, cur, h1, hb, hg, hc, hm, hs, ht⟩
  · cases h1
  · injection h1 with h1 h2 h3
    injection h1 with h1
    injection h1 with h1
    subst h1 h3
    simp only [List.length_append, List.length_singleton] at hl hc ht
    have hbn : bs.length = n := by omega
    rw [hbn] at hc ht
    exact ⟨cur, hg, hb, hbn, hc, hm, hs, by rw [ht, List.flatMap_append]; simp⟩
theorem Own.of_last {α : Type} {w : World} {base : Nat} {t : TypeId} {sz : Nat} {enc : α → List Value} {g n c : Nat} {bs : List α} {y : α} {cur : Array Value} (hb : Blk w g t cur) (h0 : base ≤ g) (h1 : bs.length = n) (h2 : n + 1 ≤ c) (h3 : c ≤ maxLen) (h4 : cur.size = c * sz)
    (h5 : cur.toList.take ((n + 1) * sz) = bs.flatMap enc ++ enc y) (hsz : ∀ x, (enc x).length = sz) : Own w base t sz enc (.slice (some ⟨g, 0, none⟩) (n + 1) c) (bs ++ [y]) := by
  have hl : (bs ++ [y]).length = n + 1 := by simp [h1]
  refine ⟨?_, .inr ⟨g, c, cur, by rw [hl], h0, hb, by rw [hl]; exact h2, h3, h4, by rw [hl, h5, List.flatMap_append]; simp⟩⟩
  exact flat_len hsz _
theorem Own.setLast4 {α : Type} {w : World} {base : Nat} {t : TypeId} {enc : α → List Value} {g n c : Nat} {bs : List α} {z y : α} {u0 u1 u2 u3 : Value} (hsz : ∀ x, (enc x).length = 4) (hy : enc y = [u0, u1, u2, u3])
    (h : Own w base t 4 enc (.slice (some ⟨g, 0, none⟩) (n + 1) c) (bs ++ [z])) :
    Own ((((w.setCell ⟨g, n * 4, none⟩ u0).setCell ⟨g, n * 4 + 1, none⟩ u1).setCell ⟨g, n * 4 + 2, none⟩ u2).setCell ⟨g, n * 4 + 3, none⟩ u3) base t 4 enc (.slice (some ⟨g, 0, none⟩) (n + 1) c) (bs ++ [y]) := by
  obtain ⟨cur, hb, h0, h1, h2, h3, h4, h5⟩ := h.last hsz
  refine Own.of_last ((((hb.set_ _ u0).set_ _ u1).set_ _ u2).set_ _ u3) h0 h1 h2 h3 (by simp [h4]) ?_ hsz
  have hf := flat_len hsz bs
  obtain ⟨z0, z1, z2, z3, hz⟩ : ∃ z0 z1 z2 z3, enc z = [z0, z1, z2, z3] := by
    have := hsz z
    match enc z, this with
    | [a, b, c, d], _ => exact ⟨a, b, c, d, rfl⟩
  simp only [Array.toList_setIfInBounds, List.take_set, h5, hz, hy]
  have e : (bs.flatMap enc).length = n * 4 := by rw [hf, h1]
  simp [e]
theorem Own.lastCells {α : Type} {w : World} {base : Nat} {t : TypeId} {sz : Nat} {enc : α → List Value} {g n c : Nat} {bs : List α} {z : α} (hsz : ∀ x, (enc x).length = sz) (h : Own w base t sz enc (.slice (some ⟨g, 0, none⟩) (n + 1) c) (bs ++ [z])) {i : Nat} {u : Value} (hu : (enc z)[i]? = some u) :
    w.cell? ⟨g, n * sz + i, none⟩ = some u ∧ w.frozen? ⟨g, n * sz + i, none⟩ = false := by
  obtain ⟨cur, hb, h0, h1, h2, h3, h4, h5⟩ := h.last hsz
  have hf := flat_len hsz bs
  have hi := get_lt hu
  rw [hsz] at hi
  refine ⟨?_, hb.frozen _⟩
  rw [hb.cell]
  have e : (cur.toList.take ((n + 1) * sz))[n * sz + i]? = some u := by
    rw [h5, List.getElem?_append_right (by rw [hf, h1]; omega), hf, h1, show n * sz + i - n * sz = i by omega]
    exact hu
  rw [List.getElem?_take, if_pos (by rw [Nat.add_mul]; omega)] at e
  simpa using e
theorem Try.info55 : (Try.prog.info? 55).map (fun i => (i.zero, i.size, i.bytes)) = some (some (.agg #[.int .i64 0, .int .i64 0, .int .i64 0, .int .i64 0, .bool false]), 5, 40) := by kernel_rfl
set_option linter.unusedVariables false in
set_option maxRecDepth 100000 in
set_option maxHeartbeats 2000000 in
theorem smpEq_true {A1 A2 : Option Addr} {n1 c1 n2 c2 : Nat} {l : List Smp} {w : World} (h1 : At w 5 eSm A1 n1 c1 l) (h2 : At w 5 eSm A2 n2 c2 l) :
    Calls Try.prog 37 #[.slice A1 n1 c1, .slice A2 n2 c2] w fun e w' => e = .returned (.bool true) ∧ Ext w w' := by
  obtain rfl : n1 = n2 := h1.len.symm.trans h2.len
  have hb := h1.bound
  have H1 := hide h1; have H2 := hide h2
  clear h1 h2
  go_enter Try.func37, Try.ntmps37
  go_wp2_with fail
  go_loopw [13] (fun ri wr => ∃ k : Nat, k ≤ n1 ∧ ri = .int .i64 k ∧ Hid (Ext w wr)) (fun i _ => n1 - (intOf i).toNat)
  case atStart => exact ⟨0, by omega, rfl, hide (Ext.refl _)⟩
  case round =>
    obtain ⟨k, hk, rfl, HX⟩ := hrel
    by_cases hlt : k < n1
    · obtain ⟨b, off, rfl, _⟩ := H1.out.addr (by omega)
      obtain ⟨b2, off2, rfl, _⟩ := H2.out.addr (by omega)
      have hat := H1.out.ext HX.out
      have hbt := H2.out.ext HX.out
      have a0 := hat.cellK hlt dS 0 _ rfl
      have a1 := hat.cellK hlt dS 1 _ rfl
      have a2 := hat.cellK hlt dS 2 _ rfl
      have a3 := hat.cellK hlt dS 3 _ rfl
      have a4 := hat.cellK hlt dS 4 _ rfl
      have d0 := hbt.cellK hlt dS 0 _ rfl
      have d1 := hbt.cellK hlt dS 1 _ rfl
      have d2 := hbt.cellK hlt dS 2 _ rfl
      have d3 := hbt.cellK hlt dS 3 _ rfl
      have d4 := hbt.cellK hlt dS 4 _ rfl
      rw [Nat.add_zero] at a0 d0
      generalize (l.getD k dS).time = y0 at *
      generalize (l.getD k dS).step = y1 at *
      generalize (l.getD k dS).shift = y2 at *
      generalize (l.getD k dS).size = y3 at *
      generalize (l.getD k dS).key = y4 at *
      have i1 : (k : Int) < (n1 : Int) := by omega
      have i0 : (0 : Int) ≤ (k : Int) := by omega
      clear hat hbt
      go_wp2_with fail
      go_quiet (fail)
      go_wp2
      go_roundw
      case rel => exact ⟨k + 1, by omega, by go_num, below_drewN HX.out _⟩
      case measure => simp [intOf]; omega
    · have hkn : k = n1 := by omega
      clear hkn
      go_wp2
      go_ret
      exact ⟨rfl, HX.out⟩
def letB (c : UInt8) : Bool := decide (97 ≤ (c.toNat : Int) ∧ (c.toNat : Int) ≤ 122)
def digB (c : UInt8) : Bool := decide (48 ≤ (c.toNat : Int) ∧ (c.toNat : Int) ≤ 57)
def okB (c : UInt8) : Bool := letB c || digB c || decide ((c.toNat : Int) = 45)
def nameB (s : ByteArray) : Bool := if h : 0 < s.size ∧ s.size ≤ 40 then letB (s[0]'h.1) && (List.range s.size).all (fun k => if hk : k < s.size then okB (s[k]'hk) else true) else false
theorem nameB_no {s : ByteArray} (h : s.size = 0 ∨ 40 < s.size) : nameB s = false := by unfold nameB; rw [dif_neg (by omega)]
theorem nameB_0 {s : ByteArray} (h : 0 < s.size) (hb : letB (s[0]'h) = false) : nameB s = false := by
  unfold nameB
  by_cases h1 : 0 < s.size ∧ s.size ≤ 40
  · rw [dif_pos h1, hb]; rfl
  · rw [dif_neg h1]
theorem nameB_at {s : ByteArray} {k : Nat} (h : k < s.size) (hb : okB (s[k]'h) = false) : nameB s = false := by
  unfold nameB
  by_cases h1 : 0 < s.size ∧ s.size ≤ 40
  · rw [dif_pos h1, Bool.and_eq_false_iff]
    right
    rw [List.all_eq_false]
    exact ⟨k, by simpa using h, by rw [dif_pos h, hb]; simp⟩
  · rw [dif_neg h1]
theorem nameB_yes {s : ByteArray} (h : 0 < s.size) (h1 : s.size ≤ 40) (h0 : letB (s[0]'h) = true) (ha : ∀ k (hk : k < s.size), okB (s[k]'hk) = true) : nameB s = true := by
  unfold nameB
  rw [dif_pos ⟨h, h1⟩, h0, Bool.true_and, List.all_eq_true]
  intro k hk
  rw [dif_pos (by simpa using hk)]
  exact ha k _
theorem letter_any (c : UInt8) (w : World) : Calls Try.prog 95 #[.int .u8 (c.toNat : Int)] w fun e w' => e = .returned (.bool (letB c)) ∧ w = w' := by
  unfold letB
  generalize (c.toNat : Int) = x
  by_cases h1 : 97 ≤ x
  · go_enter Try.func95, Try.ntmps95
    go_wp2
    go_ret
    exact ⟨ret_bool (by simp [h1]), rfl⟩
  · go_enter Try.func95, Try.ntmps95
    go_wp2
    go_ret
    exact ⟨ret_bool (by simp; omega), rfl⟩
theorem digit_any (c : UInt8) (w : World) : Calls Try.prog 96 #[.int .u8 (c.toNat : Int)] w fun e w' => e = .returned (.bool (digB c)) ∧ w = w' := by
  unfold digB
  generalize (c.toNat : Int) = x
  by_cases h1 : 48 ≤ x
  · go_enter Try.func96, Try.ntmps96
    go_wp2
    go_ret
    exact ⟨ret_bool (by simp [h1]), rfl⟩
  · go_enter Try.func96, Try.ntmps96
    go_wp2
    go_ret
    exact ⟨ret_bool (by simp; omega), rfl⟩
set_option maxRecDepth 100000 in
set_option maxHeartbeats 2000000 in
theorem isName_any (s : ByteArray) (hs : s.size ≤ maxLen) (w : World) : Calls Try.prog 66 #[.string s] w fun e w' => e = .returned (.bool (nameB s)) ∧ w = w' := by
  unfold maxLen at hs
  by_cases h0 : s.size = 0
  · have HF := hide (nameB_no (s := s) (.inl h0))
    have e0 : ((s.size : Int) == 0) = true := by simp [h0]
    clear h0
    go_enter Try.func66, Try.ntmps66
    go_wp2_with fail
    go_ret
    exact ⟨ret_bool HF.out.symm, rfl⟩
  have e0 : ((s.size : Int) == 0) = false := by rw [beq_eq_false_iff_ne]; omega
  by_cases h4 : 40 < s.size
  · have HF := hide (nameB_no (s := s) (.inr h4))
    clear h0
    go_enter Try.func66, Try.ntmps66
    go_wp2_with fail
    go_ret
    exact ⟨ret_bool HF.out.symm, rfl⟩
  have hp : 0 < s.size := by omega
  have HL := hide (fun (W : World) => letter_any (s[0]'hp) W)
  cases hb : letB (s[0]'hp) with
  | false =>
    have HF := hide (nameB_0 hp hb)
    rw [hb] at HL
    clear hb h0
    go_enter Try.func66, Try.ntmps66
    go_wp2_with fail
    refine (HL.out _).mono ?_
    rintro e w' ⟨rfl, rfl⟩
    go_wp2_with fail
    go_ret
    exact ⟨ret_bool HF.out.symm, rfl⟩
  | true =>
    have HB := hide hb
    rw [hb] at HL
    clear hb h0
    go_enter Try.func66, Try.ntmps66
    go_wp2_with fail
    refine (HL.out _).mono ?_
    rintro e w' ⟨rfl, rfl⟩
    go_wp2_with fail
    go_loop [20] (fun ri => ∃ k : Nat, k ≤ s.size ∧ ri = .int .i64 k ∧ Hid (∀ j (hj : j < s.size), j < k → okB (s[j]'hj) = true)) (fun ri => s.size - (intOf ri).toNat)
    case atStart => exact ⟨0, by omega, rfl, hide (fun j _ hj => by omega)⟩
    case round =>
      obtain ⟨k, hk, rfl, HA⟩ := hrel
      by_cases hlt : k < s.size
      · have HC := hide (fun (W : World) => letter_any (s[k]'hlt) W)
        have HD := hide (fun (W : World) => digit_any (s[k]'hlt) W)
        have HNo := hide (fun hb => nameB_at (s := s) hlt hb)
        have HN : Hid (okB (s[k]'hlt) = true → ∀ j (hj : j < s.size), j < k + 1 → okB (s[j]'hj) = true) := hide (fun hb j hj h2 => by
          rcases Nat.lt_succ_iff_lt_or_eq.1 h2 with h | h
          · exact HA.out j hj h
          · subst h; exact hb)
        unfold okB at HNo HN
        cases b1 : letB (s[k]'hlt) with
        | true =>
          have HN2 := hide (HN.out (by simp [b1]))
          rw [b1] at HC
          clear b1
          go_wp2_with fail
          refine (HC.out _).mono ?_
          rintro e w' ⟨rfl, rfl⟩
          go_wp2_with fail
          go_round
          case rel => exact ⟨k + 1, by omega, by go_num, HN2⟩
          case measure => simp [intOf]; omega
        | false =>
          cases b2 : digB (s[k]'hlt) with
          | true =>
            have HN2 := hide (HN.out (by simp [b2]))
            rw [b1] at HC
            rw [b2] at HD
            clear b1 b2
            go_wp2_with fail
            refine (HC.out _).mono ?_
            rintro e w' ⟨rfl, rfl⟩
            go_wp2_with fail
            refine (HD.out _).mono ?_
            rintro e w' ⟨rfl, rfl⟩
            go_wp2_with fail
            go_round
            case rel => exact ⟨k + 1, by omega, by go_num, HN2⟩
            case measure => simp [intOf]; omega
          | false =>
            by_cases b3 : ((s[k]'hlt).toNat : Int) = 45
            · have HN2 := hide (HN.out (by simp [b3]))
              have g3 : (((s[k]'hlt).toNat : Int) != 45) = false := by simp [b3]
              rw [b1] at HC
              rw [b2] at HD
              clear b1 b2 b3
              go_wp2_with fail
              refine (HC.out _).mono ?_
              rintro e w' ⟨rfl, rfl⟩
              go_wp2_with fail
              refine (HD.out _).mono ?_
              rintro e w' ⟨rfl, rfl⟩
              go_wp2_with fail
              go_round
              case rel => exact ⟨k + 1, by omega, by go_num, HN2⟩
              case measure => simp [intOf]; omega
            · have HF := hide (HNo.out (by simp [b1, b2, b3]))
              have g3 : (((s[k]'hlt).toNat : Int) != 45) = true := by simp [b3]
              rw [b1] at HC
              rw [b2] at HD
              clear b1 b2 b3
              go_wp2_with fail
              refine (HC.out _).mono ?_
              rintro e w' ⟨rfl, rfl⟩
              go_wp2_with fail
              refine (HD.out _).mono ?_
              rintro e w' ⟨rfl, rfl⟩
              go_wp2_with fail
              go_ret
              exact ⟨ret_bool HF.out.symm, rfl⟩
      · have HF := hide (nameB_yes hp (by omega) HB.out (fun j hj => HA.out j hj (by omega)))
        go_wp2_with fail
        go_ret
        exact ⟨ret_bool HF.out.symm, rfl⟩
structure TrkT where
  name : List UInt8
  scale : Int
  smp : List Smp
  ed : List (Int × Int)
deriving Inhabited
structure TrkH where
  name : List UInt8
  scale : Int
  sA : Option Addr
  sn : Nat
  sc : Nat
  eA : Option Addr
  en : Nat
  ec : Nat
deriving Inhabited
abbrev eTk (x : TrkH) : List Value := [.string ⟨x.name.toArray⟩, .int .i64 x.scale, .slice x.sA x.sn x.sc, .slice x.eA x.en x.ec]
theorem len_eTk (x : TrkH) : (eTk x).length = 4 := rfl
theorem one_eTk (x : TrkH) : ∀ u ∈ eTk x, u.oneCell' = true := by
  intro u hu
  simp at hu
  rcases hu with rfl | rfl | rfl | rfl <;> rfl
def TkOk (w : World) (y : TrkH) (x : TrkT) : Prop := y.name = x.name ∧ y.scale = x.scale ∧ At w 5 eSm y.sA y.sn y.sc x.smp ∧ At w 2 e2 y.eA y.en y.ec x.ed
theorem TkOk.ext {w w' : World} {y : TrkH} {x : TrkT} (he : Ext w w') (h : TkOk w y x) : TkOk w' y x := ⟨h.1, h.2.1, h.2.2.1.ext he, h.2.2.2.ext he⟩
structure TksAt (w : World) (A : Option Addr) (n c : Nat) (hs : List TrkH) (l : List TrkT) : Prop where
  at_ : At w 4 eTk A n c hs
  len : l.length = n
  ok : ∀ i, i < n → TkOk w (hs.getD i default) (l.getD i default)
theorem TksAt.ext {w w' : World} {A : Option Addr} {n c : Nat} {hs : List TrkH} {l : List TrkT} (h : TksAt w A n c hs l) (he : Ext w w') : TksAt w' A n c hs l := ⟨h.at_.ext he, h.len, fun i hi => (h.ok i hi).ext he⟩
theorem TksAt.nil (w : World) : TksAt w none 0 0 [] [] := ⟨At.nil _ _ _, rfl, fun _ hi => absurd hi (Nat.not_lt_zero _)⟩
theorem TksAt.upto {w : World} {A : Option Addr} {n c : Nat} {hs : List TrkH} {l : List TrkT} (h : TksAt w A n c hs l) {k : Nat} (hk : k ≤ n) : TksAt w A k c (hs.take k) (l.take k) := by
  refine ⟨h.at_.upto hk, by rw [List.length_take, h.len]; omega, fun i hi => ?_⟩
  have := h.ok i (by omega)
  simp only [List.getD_eq_getElem?_getD, List.getElem?_take, hi, if_true] at this ⊢
  exact this
abbrev eB1 (h : Option Addr × Nat × Nat) : List Value := [.slice h.1 h.2.1 h.2.2]
theorem len_eB1 (x : Option Addr × Nat × Nat) : (eB1 x).length = 1 := rfl
structure DtsAt (w : World) (A : Option Addr) (n c : Nat) (hs : List (Option Addr × Nat × Nat)) (l : List (List UInt8)) : Prop where
  at_ : At w 1 eB1 A n c hs
  len : l.length = n
  ok : ∀ i, i < n → At w 1 e8 (hs.getD i (none, 0, 0)).1 (hs.getD i (none, 0, 0)).2.1 (hs.getD i (none, 0, 0)).2.2 (l.getD i [])
theorem DtsAt.ext {w w' : World} {A : Option Addr} {n c : Nat} {hs : List (Option Addr × Nat × Nat)} {l : List (List UInt8)} (h : DtsAt w A n c hs l) (he : Ext w w') : DtsAt w' A n c hs l := ⟨h.at_.ext he, h.len, fun i hi => (h.ok i hi).ext he⟩
def badSc (n : Int) : Bool := decide (n < 1 ∨ 1000000000 < n)
def badE (x : Int × Int) : Bool := decide (x.1 < 1 ∨ 1000000000000000 < x.1) || decide (x.2 < -1 ∨ 1000000000000000 < x.2)
def sumE : List (Int × Int) → Int
  | [] => 0
  | x :: r => x.1 + sumE r
theorem sumE_app : ∀ a b : List (Int × Int), sumE (a ++ b) = sumE a + sumE b
  | [], b => by simp [sumE]
  | x :: a, b => by rw [List.cons_append, sumE, sumE, sumE_app a b]; omega
theorem sumE_take {l : List (Int × Int)} {k : Nat} (h : k < l.length) : sumE (l.take (k + 1)) = sumE (l.take k) + (l.getD k (0, 0)).1 := by
  rw [List.take_succ_eq_append_getElem h, sumE_app]
  simp [sumE, List.getD, h]
def edF (l : List (Int × Int)) : Int := if l.any badE = true then 1 else if 1000000000000000 < sumE l then 1 else 0
def trF (x : TrkT) (before : List TrkT) : Int :=
  if nameB ⟨x.name.toArray⟩ = false then 5
  else if before.any (fun y => y.name == x.name) = true then 7
  else if badSc x.scale = true then 1
  else if smpF x.smp ≠ 0 then smpF x.smp
  else if 50 < x.ed.length then 2
  else edF x.ed
def filF (sc : Int) (l : List TrkT) : Int :=
  if badSc sc = true then 1 else if 8 < l.length then 2 else firstF (fun i => trF (l.getD i default) (l.take i)) l.length
theorem edF_bad {l : List (Int × Int)} {k : Nat} (hk : k < l.length) (h : badE (l.getD k (0, 0)) = true) : edF l = 1 := by
  unfold edF
  rw [if_pos]
  rw [List.any_eq_true]
  refine ⟨l.getD k (0, 0), ?_, h⟩
  rw [List.getD_eq_getElem?_getD, List.getElem?_eq_getElem hk, Option.getD_some]
  exact List.getElem_mem hk
theorem edF_good {l : List (Int × Int)} (h : ∀ k, k < l.length → badE (l.getD k (0, 0)) = false) : edF l = if 1000000000000000 < sumE l then 1 else 0 := by
  unfold edF
  rw [if_neg]
  rw [List.any_eq_true]
  rintro ⟨x, hx, hb⟩
  obtain ⟨k, hk, rfl⟩ := List.getElem_of_mem hx
  have := h k hk
  rw [List.getD_eq_getElem?_getD, List.getElem?_eq_getElem hk, Option.getD_some, hb] at this
  cases this
theorem badE_ok {x : Int × Int} (h : badE x = false) : (1 ≤ x.1 ∧ x.1 ≤ 1000000000000000) ∧ (-1 ≤ x.2 ∧ x.2 ≤ 1000000000000000) := by
  unfold badE at h
  simp only [Bool.or_eq_false_iff, decide_eq_false_iff_not] at h
  omega
theorem sumE_bd {l : List (Int × Int)} (h : ∀ k, k < l.length → badE (l.getD k (0, 0)) = false) : ∀ k, k ≤ l.length → 0 ≤ sumE (l.take k) ∧ sumE (l.take k) ≤ 1000000000000000 * k
  | 0, _ => by simp [sumE]
  | k + 1, hk => by
    have ih := sumE_bd h k (by omega)
    have h1 := badE_ok (h k (by omega))
    rw [sumE_take (by omega)]
    omega
theorem twice_yes {l : List TrkT} {n : List UInt8} {k : Nat} (hk : k < l.length) (h : (l.getD k default).name = n) : l.any (fun y => y.name == n) = true := by
  rw [List.any_eq_true]
  refine ⟨l.getD k default, ?_, by rw [h]; simp⟩
  rw [List.getD_eq_getElem?_getD, List.getElem?_eq_getElem hk, Option.getD_some]
  exact List.getElem_mem hk
theorem twice_no {l : List TrkT} {n : List UInt8} (h : ∀ k, k < l.length → (l.getD k default).name ≠ n) : l.any (fun y => y.name == n) = false := by
  rw [List.any_eq_false]
  intro x hx
  obtain ⟨k, hk, rfl⟩ := List.getElem_of_mem hx
  have := h k hk
  rw [List.getD_eq_getElem?_getD, List.getElem?_eq_getElem hk, Option.getD_some] at this
  simpa using this
structure FilOk (sc : Int) (l : List TrkT) : Prop where
  scale : 1 ≤ sc ∧ sc ≤ 1000000000
  few : l.length ≤ 8
  tracks : ∀ i, i < l.length → trF (l.getD i default) (l.take i) = 0
theorem filF_ok {sc : Int} {l : List TrkT} (h : filF sc l = 0) : FilOk sc l := by
  unfold filF at h
  cases hb : badSc sc with
  | true => rw [hb, if_pos rfl] at h; omega
  | false =>
    rw [hb, if_neg (by simp)] at h
    by_cases h8 : 8 < l.length
    · rw [if_pos h8] at h; omega
    rw [if_neg h8] at h
    unfold badSc at hb
    rw [decide_eq_false_iff_not] at hb
    exact ⟨by omega, by omega, firstF_all h⟩
theorem trF_ok {x : TrkT} {l : List TrkT} (h : trF x l = 0) : nameB ⟨x.name.toArray⟩ = true ∧ (1 ≤ x.scale ∧ x.scale ≤ 1000000000) ∧ smpF x.smp = 0 ∧ x.ed.length ≤ 50 ∧ edF x.ed = 0 := by
  unfold trF at h
  cases hn : nameB ⟨x.name.toArray⟩ with
  | false => rw [hn, if_pos rfl] at h; omega
  | true =>
    rw [hn, if_neg (by simp)] at h
    split at h
    · omega
    · split at h
      · omega
      · rename_i hs
        unfold badSc at hs
        simp only [decide_eq_true_eq] at hs
        split at h
        · exact absurd h (by assumption)
        · split at h
          · omega
          · exact ⟨rfl, by omega, by omega, by omega, h⟩
theorem At.range_ {α : Type} {P : Program} {T elem : TypeId} {sz : Nat} {enc : α → List Value} {A : Option Addr} {n c : Nat} {xs : List α} {w : World} (hu : P.underlying T = some (.slice elem)) (hs : ∀ W, (Go.sizeOf elem).run P W = .ok sz W)
    (h : At w sz enc A n c xs) {k m : Nat} (hk : k ≤ m) (hm : m ≤ n) (i j : Int) (hi : i = (k : Int)) (hj : j = (m : Int)) :
    ∃ A', (∀ W, (Instr.slice T (.slice A n c) (some (.int .i64 i)) (some (.int .i64 j)) none).run P W = .ok (.slice A' (m - k) (c - k)) W) ∧ (∀ W, At W sz enc A n c xs → At W sz enc A' (m - k) (c - k) ((xs.drop k).take (m - k))) := by
  subst hi; subst hj
  refine ⟨if c = k then A else A.map (·.add (k * sz)), fun W => ?_, fun W hW => ((hW.cut (k := k) (by omega)).upto (k := m - k) (by omega))⟩
  have _hle := h.le
  simp [Instr.slice, run_underlying hu, Instr.sliceBounds, Instr.sliceBound, asIntOf, hs, go_sem, hk, show m ≤ c by omega]
end Go.Proofs.Ytlonhkjplijlcaa
