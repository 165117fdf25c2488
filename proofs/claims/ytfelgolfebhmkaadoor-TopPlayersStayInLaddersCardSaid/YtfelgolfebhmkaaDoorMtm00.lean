/- Words for memory that all proofs of this seat share: a new world that only adds blocks, a slice that reads as a list, numbers of the unsigned kinds. No condition. -/
import Derived.WalkKit
import Derived.WalkSpells
import Derived.WalkLawsBesides
import Derived.Deep.QuietTactic
import Derived.BigQuiet
import Derived.Lib.Hide
import Derived.Laws.BitsAllLaws
import Derived.Deep.Draws
import Derived.Maps.AppendAt
import Derived.Deep.AppendLies
import Derived.RegionTactic
import Derived.OwnWalk
namespace Go.Proofs.YtfelgolfebhmkaaDoor
open Go.RowKit
theorem hide {p : Prop} (h : p) : Hid p := h
abbrev Ext (w w' : World) : Prop := Below w.heap.size w w'
theorem Ext.refl (w : World) : Ext w w := Below.refl _ _
theorem Ext.trans {a b c : World} (h : Ext a b) (k : Ext b c) : Ext a c := Below.trans h (Below.mono k h.size)
theorem Ext.drewN (w : World) (n : Nat) : Ext w (w.drewN n) := ⟨rfl, rfl, rfl, Nat.le_refl _, fun _ _ => rfl⟩
theorem Ext.drew (w : World) : Ext w w.drew := ⟨rfl, rfl, rfl, Nat.le_refl _, fun _ _ => rfl⟩
theorem Ext.alloc (w : World) (o : Obj) : Ext w (w.alloc o) := (Below.refl _ _).alloc (Nat.le_refl _) o
theorem below_drewN {B : Nat} {a w : World} (h : Below B a w) (n : Nat) : Below B a (w.drewN n) := ⟨h.os, h.tape, h.output, h.size, h.block⟩
theorem ext_alloc {w a : World} (h : Below w.heap.size w a) (o : Obj) : Below w.heap.size w (a.alloc o) := h.alloc h.size o
theorem cell_lt {w : World} {a : Addr} {v : Value} (h : w.cell? a = some v) : a.block < w.heap.size := World.block_lt_of_cell? w a h
theorem Ext.cell {w w' : World} (h : Ext w w') {a : Addr} {v : Value} (hc : w.cell? a = some v) : w'.cell? a = some v :=
  (Below.cell h (cell_lt hc)).trans hc
theorem cell_spot {w : World} {a : Addr} {v : Value} (h : w.cell? a = some v) : a.spot = none := by
  unfold World.cell? at h
  split at h
  · split at h
    · cases h
    · rename_i hs; simpa using hs
  · cases h
theorem add_of_add (a : Addr) (i j : Nat) : (a.add i).add j = a.add (i + j) := by
  unfold Addr.add
  by_cases hi : i = 0 <;> by_cases hj : j = 0 <;> simp [hi, hj, Nat.add_assoc]
structure At {α : Type} (w : World) (sz : Nat) (enc : α → List Value) (A : Option Addr) (n c : Nat) (xs : List α) : Prop where
  len : xs.length = n
  le : n ≤ c
  max : c ≤ maxLen
  none_ : A = none → c = 0
  cells : ∀ (k : Nat) (x : α), xs[k]? = some x → ∃ b off, A = some ⟨b, off, none⟩ ∧ ∀ (j : Nat) (u : Value), (enc x)[j]? = some u → w.cell? ⟨b, off + k * sz + j, none⟩ = some u
def Sl {α : Type} (w : World) (sz : Nat) (enc : α → List Value) (v : Value) (xs : List α) : Prop :=
  ∃ (A : Option Addr) (n c : Nat), v = .slice A n c ∧ At w sz enc A n c xs
section
variable {α : Type} {w w' : World} {sz : Nat} {enc : α → List Value} {v : Value} {xs : List α} {A : Option Addr} {n c : Nat}
theorem At.sl (h : At w sz enc A n c xs) : Sl w sz enc (.slice A n c) xs := ⟨A, n, c, rfl, h⟩
theorem At.keep (h : At w sz enc A n c xs) (hk : ∀ (a : Addr) (u : Value), w.cell? a = some u → w'.cell? a = some u) : At w' sz enc A n c xs :=
  ⟨h.len, h.le, h.max, h.none_, fun k x hx => by
    obtain ⟨b, off, e, hc⟩ := h.cells k x hx
    exact ⟨b, off, e, fun j u hu => hk _ _ (hc j u hu)⟩⟩
theorem At.ext (h : At w sz enc A n c xs) (he : Ext w w') : At w' sz enc A n c xs := h.keep fun _ _ hc => he.cell hc
theorem Sl.ext (h : Sl w sz enc v xs) (he : Ext w w') : Sl w' sz enc v xs := by
  obtain ⟨A, n, c, rfl, ha⟩ := h
  exact (ha.ext he).sl
theorem At.nil (w : World) (sz : Nat) (enc : α → List Value) : At w sz enc none 0 0 ([] : List α) :=
  ⟨rfl, Nat.le_refl _, Nat.zero_le _, fun _ => rfl, fun k x hx => by simp at hx⟩
theorem Sl.nil (w : World) (sz : Nat) (enc : α → List Value) : Sl w sz enc (.slice none 0 0) ([] : List α) := (At.nil w sz enc).sl
theorem At.boundc (h : At w sz enc A n c xs) : c ≤ 9223372036854775807 := by
  have h2 := h.max; unfold maxLen at h2; omega
theorem At.bound (h : At w sz enc A n c xs) : n ≤ 9223372036854775807 := by
  have h1 := h.le; have h2 := h.boundc; omega
theorem At.addr (h : At w sz enc A n c xs) (hn : 0 < n) : ∃ b off, A = some ⟨b, off, none⟩ ∧
    ∀ (k : Nat) (hk : k < xs.length) (j : Nat) (u : Value), (enc xs[k])[j]? = some u → w.cell? ⟨b, off + k * sz + j, none⟩ = some u := by
  have h0 : 0 < xs.length := by have := h.len; omega
  obtain ⟨b, off, e, hc0⟩ := h.cells 0 _ (List.getElem?_eq_getElem h0)
  refine ⟨b, off, e, fun k hk j u hu => ?_⟩
  obtain ⟨b', off', e', hc⟩ := h.cells k _ (List.getElem?_eq_getElem hk)
  rw [e] at e'
  injection e' with e'
  injection e' with e1 e2
  subst e1 e2
  exact hc j u hu
theorem At.cut (h : At w sz enc A n c xs) {k : Nat} (hk : k ≤ n) :
    At w sz enc (if c = k then A else A.map (·.add (k * sz))) (n - k) (c - k) (xs.drop k) := by
  refine ⟨by have := h.len; simp; omega, by have := h.le; omega, by have := h.max; omega, fun hA => ?_, fun i x hx => ?_⟩
  · by_cases e : c = k
    · omega
    · rw [if_neg e] at hA
      have hA' : A = none := by simpa using hA
      have := h.none_ hA'; omega
  · have hi : i < (xs.drop k).length := (List.getElem?_eq_some_iff.1 hx).1
    simp only [List.length_drop, h.len] at hi
    have hle := h.le
    obtain ⟨b, off, rfl, hc⟩ := h.cells (k + i) x (by rw [List.getElem?_drop] at hx; exact hx)
    refine ⟨b, off + k * sz, ?_, fun j u hu => ?_⟩
    · rw [if_neg (by omega)]
      simp only [Option.map_some, Addr.add]
      split
      · rename_i e; rw [e]; rfl
      · rfl
    · have := hc j u hu
      rw [show off + k * sz + i * sz + j = off + (k + i) * sz + j by rw [Nat.add_mul]; omega]
      exact this
theorem At.upto (h : At w sz enc A n c xs) {k : Nat} (hk : k ≤ n) : At w sz enc A k c (xs.take k) :=
  ⟨by have := h.len; simp; omega, by have := h.le; omega, h.max, h.none_, fun i x hx => h.cells i x (by
    rw [List.getElem?_take] at hx
    split at hx
    · exact hx
    · cases hx)⟩
end
def Own {α : Type} (w : World) (base : Nat) (t : TypeId) (sz : Nat) (enc : α → List Value) (v : Value) (xs : List α) : Prop := w.ownsRow base t sz v xs.length (xs.flatMap enc)
theorem flat_len {α : Type} {sz : Nat} {enc : α → List Value} (hsz : ∀ x, (enc x).length = sz) : ∀ xs : List α, (xs.flatMap enc).length = xs.length * sz
  | [] => by simp
  | x :: xs => by rw [List.flatMap_cons, List.length_append, hsz, flat_len hsz xs, List.length_cons, Nat.add_mul]; omega
theorem flat_get {α : Type} {sz : Nat} {enc : α → List Value} (hsz : ∀ x, (enc x).length = sz) : ∀ (xs : List α) (k : Nat) (x : α) (j : Nat) (u : Value), xs[k]? = some x → (enc x)[j]? = some u → (xs.flatMap enc)[k * sz + j]? = some u
  | y :: ys, 0, x, j, u, hx, hu => by
    simp at hx; subst hx
    rw [List.flatMap_cons, List.getElem?_append_left (by have := (List.getElem?_eq_some_iff.1 hu).1; simpa using this)]
    simpa using hu
  | y :: ys, k + 1, x, j, u, hx, hu => by
    simp only [List.getElem?_cons_succ] at hx
    have := flat_get hsz ys k x j u hx hu
    rw [List.flatMap_cons, List.getElem?_append_right (by rw [hsz, Nat.add_mul]; omega), hsz]
    rw [show (k + 1) * sz + j - sz = k * sz + j by rw [Nat.add_mul]; omega]
    exact this
section
variable {α : Type} {w w' : World} {base : Nat} {t : TypeId} {sz : Nat} {enc : α → List Value} {v : Value} {xs : List α}
theorem Own.nil (w : World) (base : Nat) (t : TypeId) (sz : Nat) (enc : α → List Value) : Own w base t sz enc (.slice none 0 0) ([] : List α) := World.ownsRow_nil w base t sz
theorem Own.at_ (h : Own w base t sz enc v xs) (hsz : ∀ x, (enc x).length = sz) : ∃ A c, v = .slice A xs.length c ∧ At w sz enc A xs.length c xs := by
  rcases h.2 with ⟨rfl, h0⟩ | ⟨g, cap, cur, rfl, hb, hg, hc, hm, hs, ht⟩
  · obtain rfl : xs = [] := List.eq_nil_of_length_eq_zero h0
    exact ⟨none, 0, rfl, At.nil _ _ _⟩
  · refine ⟨_, _, rfl, rfl, hc, hm, fun h => (by cases h), fun k x hx => ⟨g, 0, rfl, fun j u hu => ?_⟩⟩
    have hcells := h.cells (g := g) rfl (k * sz + j) u (flat_get hsz xs k x j u hx hu)
    have hadd : (⟨g, 0, none⟩ : Addr).add (k * sz + j) = ⟨g, 0 + k * sz + j, none⟩ := by unfold Addr.add; split <;> simp_all
    rw [hadd] at hcells
    exact hcells
theorem Own.atS {A : Option Addr} {n c : Nat} (h : Own w base t sz enc (.slice A n c) xs) (hsz : ∀ x, (enc x).length = sz) : At w sz enc A n c xs := by
  obtain ⟨A', c', e, ha⟩ := h.at_ hsz
  injection e with e1 e2 e3
  subst e1 e2 e3
  exact ha
theorem Own.len {A : Option Addr} {n c : Nat} (h : Own w base t sz enc (.slice A n c) xs) (hsz : ∀ x, (enc x).length = sz) : xs.length = n := (h.atS hsz).len
theorem Own.ext (h : Own w base t sz enc v xs) (he : Ext w w') : Own w' base t sz enc v xs :=
  World.ownsRow.kept h (row := none) ⟨he.os, he.tape, he.output, he.size, fun k hk _ => he.block k hk⟩ (by cases hv : v.ownBlock <;> simp)
theorem Own.more {base' : Nat} (h : Own w base t sz enc v xs) (hb : base' ≤ base) : Own w base' t sz enc v xs := by
  refine ⟨h.1, ?_⟩
  rcases h.2 with h2 | ⟨g, cap, cur, hv, hg, r⟩
  · exact .inl h2
  · exact .inr ⟨g, cap, cur, hv, by omega, r⟩
theorem Own.kept {row : Option Nat} (h : Own w base t sz enc v xs) (hg : w.grownBy w' row) (hne : v.ownBlock = none ∨ v.ownBlock ≠ row) : Own w' base t sz enc v xs := World.ownsRow.kept h hg hne
theorem Own.lt (h : Own w base t sz enc v xs) : ∀ k, v.ownBlock = some k → base ≤ k ∧ k < w.heap.size := World.ownsRow.lt h
theorem Own.below {w0 : World} (h : Own w base t sz enc v xs) (he : Ext w0 w) (hg : w.grownBy w' v.ownBlock) (hb : w0.heap.size ≤ base) : Ext w0 w' :=
  Below.grown he hg he.size fun k hk => by have := (h.lt k hk).1; omega
end
section
variable {P : Program} (w : World)
theorem run_append_of_nil (base : Nat) (t ty e : TypeId) (i : TypeInfo) (size : Nat) (ht : P.underlying t = some (.slice e)) (hi : P.info? e = some i)
    (v : Value) (n : Nat) (xs : List Value) (hown : w.ownsRow base e size v n xs) (c : Nat) : (Builtin.append_ #[t, t] ty #[v, .slice none 0 c]).run P w = .ok v w := by
  rcases hown.2 with ⟨rfl, rfl⟩ | ⟨g, cap, cur, rfl, _, _, hnc, _⟩
  · simp [Builtin.append_, run_underlying ht, sizeOf, typeInfo, hi, Builtin.lenOf, Builtin.firstCells]
  · simp [Builtin.append_, run_underlying ht, sizeOf, typeInfo, hi, Builtin.lenOf, Builtin.firstCells, hnc, storeCells]
variable {α : Type} {enc : α → List Value} {size : Nat}
theorem run_append_at (base : Nat) (t ty e : TypeId) (i : TypeInfo) (z : Value) (bytes : Nat) (ht : P.underlying t = some (.slice e)) (hi : P.info? e = some i) (hz : i.zero = some z)
    (hsize : i.size = size) (hby : i.bytes = bytes) (hzs : z.cells.size = size) (hsz : 0 < size) (henc : ∀ x, (enc x).length = size) (h1 : ∀ x, ∀ u ∈ enc x, u.oneCell' = true)
    (v : Value) (xs : List α) (hown : Own w base e size enc v xs) (A : Option Addr) (m c : Nat) (ys : List α) (hr : At w size enc A m c ys)
    (h63 : xs.length + m ≤ maxLen) (hbytes : (xs.length + m) * bytes ≤ 140737488355328) (hbase : base ≤ w.heap.size) :
    ∃ v' w', (Builtin.append_ #[t, t] ty #[v, .slice A m c]).run P w = .ok v' w' ∧ Own w' base e size enc v' (xs ++ ys) ∧ w.grownBy w' v.ownBlock ∧
      (v' = .slice none 0 0 ↔ v = .slice none 0 0 ∧ m = 0) ∧ (v'.ownBlock = v.ownBlock ∨ v'.ownBlock = some w.heap.size) := by
  have hlen := hr.len
  have hone : ∀ u ∈ ys.flatMap enc, u.oneCell' = true := fun u hu => by
    obtain ⟨x, _, hx⟩ := List.mem_flatMap.1 hu
    exact h1 x u hx
  have done : ∀ ad : Addr, (∀ j u, (ys.flatMap enc)[j]? = some u → w.cell? (ad.add j) = some u) →
      ∃ v' w', (Builtin.append_ #[t, t] ty #[v, .slice (some ad) m c]).run P w = .ok v' w' ∧ Own w' base e size enc v' (xs ++ ys) ∧ w.grownBy w' v.ownBlock ∧
        (v' = .slice none 0 0 ↔ v = .slice none 0 0 ∧ m = 0) ∧ (v'.ownBlock = v.ownBlock ∨ v'.ownBlock = some w.heap.size) := fun ad hcells => by
    obtain ⟨v', w', hrun, h2, h3, h4, h5⟩ := run_append_own_at (P := P) w base t ty e i z size bytes ht hi hz hsize hby hzs hsz v xs.length (xs.flatMap enc) hown ad m c (ys.flatMap enc) (by rw [flat_len henc, hlen]) hcells hone h63 hbytes hbase
    refine ⟨v', w', hrun, ?_, h3, h4, h5⟩
    unfold Own
    rw [List.length_append, hlen, List.flatMap_append]
    exact h2
  rcases Nat.eq_zero_or_pos m with h0 | h0
  · subst h0
    have hn : ys = [] := List.eq_nil_of_length_eq_zero hlen
    subst hn
    cases A with
    | none => exact ⟨v, w, run_append_of_nil w base t ty e i size ht hi v _ _ hown c, by simpa using hown, World.grownBy.refl w _, by simp, .inl rfl⟩
    | some ad => exact done ad (fun j u hu => by simp at hu)
  · obtain ⟨b, off, rfl, hc⟩ := hr.addr h0
    refine done ⟨b, off, none⟩ (fun j u hu => ?_)
    have hj : j < m * size := by
      have := (List.getElem?_eq_some_iff.1 hu).1
      rw [flat_len henc, hlen] at this; exact this
    have hq : j / size < ys.length := by rw [hlen]; exact Nat.div_lt_of_lt_mul (by rw [Nat.mul_comm]; exact hj)
    have hmod : j % size < size := Nat.mod_lt _ hsz
    have hjj : j / size * size + j % size = j := by rw [Nat.mul_comm]; exact Nat.div_add_mod j size
    have hx : (enc ys[j / size])[j % size]? = some ((enc ys[j / size])[j % size]'(by rw [henc]; exact hmod)) := List.getElem?_eq_getElem _
    have hf := flat_get henc ys (j / size) _ (j % size) _ (List.getElem?_eq_getElem hq) hx
    rw [hjj, hu] at hf
    injection hf with hf
    have := hc (j / size) hq (j % size) u (by rw [hf]; exact hx)
    rw [Addr.add_lit]
    rw [show off + j / size * size + j % size = off + j by omega] at this
    exact this
theorem wp_append_at {o : Oper} {a : Act} {K : Act → World → Prop} {Q : Exit → Act → World → Prop} (s x : Operand) (t : TypeId)
    (ho : o.op = .call { callee := .builtin .append, args := #[s, x], argTypes := #[t, t] })
    (base : Nat) (e : TypeId) (i : TypeInfo) (z : Value) (bytes : Nat) (ht : P.underlying t = some (.slice e)) (hi : P.info? e = some i) (hz : i.zero = some z)
    (hsize : i.size = size) (hby : i.bytes = bytes) (hzs : z.cells.size = size) (hsz : 0 < size) (henc : ∀ x, (enc x).length = size) (h1 : ∀ x, ∀ u ∈ enc x, u.oneCell' = true)
    (v : Value) (xs : List α) (hs : a.eval s = v) (hown : Own w base e size enc v xs) (A : Option Addr) (m c : Nat) (ys : List α) (hx : a.eval x = .slice A m c) (hr : At w size enc A m c ys)
    (h63 : xs.length + m ≤ maxLen) (hbytes : (xs.length + m) * bytes ≤ 140737488355328) (hbase : base ≤ w.heap.size)
    (h : ∀ v' w', Own w' base e size enc v' (xs ++ ys) → w.grownBy w' v.ownBlock → (v' = .slice none 0 0 ↔ v = .slice none 0 0 ∧ m = 0) → (v'.ownBlock = v.ownBlock ∨ v'.ownBlock = some w.heap.size) → K (a.put o.dst v') w') : o.wp P a w K Q := by
  obtain ⟨v', w', hrun, h2, h3, h4, h5⟩ := run_append_at (P := P) w base t o.type e i z bytes ht hi hz hsize hby hzs hsz henc h1 v xs hown A m c ys hr h63 hbytes hbase
  unfold Oper.wp execOp
  simp only [ho, resolve, invoke, builtin, Sem.run_bind, Sem.run_pure, Result.andThen_ok, List.map_toArray, List.map_cons, List.map_nil, hs, hx, hrun]
  exact h v' w' h2 h3 h4 h5
theorem wpList_append_at {ops : Array Oper} {rest : List Oper} {o : Oper} {a : Act} {Q : Exit → Act → World → Prop} (hgd : o.guard = none) (s x : Operand) (t : TypeId)
    (ho : o.op = .call { callee := .builtin .append, args := #[s, x], argTypes := #[t, t] })
    (base : Nat) (e : TypeId) (i : TypeInfo) (z : Value) (bytes : Nat) (ht : P.underlying t = some (.slice e)) (hi : P.info? e = some i) (hz : i.zero = some z)
    (hsize : i.size = size) (hby : i.bytes = bytes) (hzs : z.cells.size = size) (hsz : 0 < size) (henc : ∀ x, (enc x).length = size) (h1 : ∀ x, ∀ u ∈ enc x, u.oneCell' = true)
    (v : Value) (xs : List α) (hs : a.eval s = v) (hown : Own w base e size enc v xs) (A : Option Addr) (m c : Nat) (ys : List α) (hx : a.eval x = .slice A m c) (hr : At w size enc A m c ys)
    (h63 : xs.length + m ≤ maxLen) (hbytes : (xs.length + m) * bytes ≤ 140737488355328) (hbase : base ≤ w.heap.size)
    (h : ∀ v' w', Own w' base e size enc v' (xs ++ ys) → w.grownBy w' v.ownBlock → (v' = .slice none 0 0 ↔ v = .slice none 0 0 ∧ m = 0) → (v'.ownBlock = v.ownBlock ∨ v'.ownBlock = some w.heap.size) → wpList P ops Q rest (a.put o.dst v') w') : wpList P ops Q (o :: rest) a w :=
  wpList_plain hgd fun _ hK => wp_append_at w s x t ho base e i z bytes ht hi hz hsize hby hzs hsz henc h1 v xs hs hown A m c ys hx hr h63 hbytes hbase fun v' w' h2 h3 h4 h5 => hK _ _ (h v' w' h2 h3 h4 h5)
end
def Blk (w : World) (g : Nat) (t : TypeId) (cs : Array Value) : Prop := w.heap[g]? = some (.cells cs t (0, 0))
section
variable {w w' : World} {g : Nat} {t : TypeId} {cs : Array Value}
theorem Blk.lt (h : Blk w g t cs) : g < w.heap.size := by
  rcases Nat.lt_or_ge g w.heap.size with hlt | hge
  · exact hlt
  · unfold Blk at h; rw [Array.getElem?_eq_none hge] at h; cases h
theorem Blk.cell (h : Blk w g t cs) (i : Nat) : w.cell? ⟨g, i, none⟩ = cs[i]? := cell_of_row w g i cs t (0, 0) h
theorem Blk.frozen (h : Blk w g t cs) (i : Nat) : w.frozen? ⟨g, i, none⟩ = false := by
  unfold Blk at h
  simp [World.frozen?, h]
theorem Blk.new (w : World) (t : TypeId) (cs : Array Value) : Blk (w.alloc (.cells cs t)) w.heap.size t cs := heap_alloc_new w _
theorem Blk.drew (h : Blk w g t cs) : Blk w.drew g t cs := h
theorem Blk.drewN (h : Blk w g t cs) (n : Nat) : Blk (w.drewN n) g t cs := h
theorem Blk.alloc (h : Blk w g t cs) (o : Obj) : Blk (w.alloc o) g t cs := (Below.heap_alloc w o g h.lt).trans h
theorem Blk.set_ (h : Blk w g t cs) (i : Nat) (u : Value) : Blk (w.setCell ⟨g, i, none⟩ u) g t (cs.setIfInBounds i u) := by
  unfold Blk at h ⊢
  simp [World.setCell, Array.getElem?_modify, h]
theorem Blk.below {B : Nat} (h : Blk w g t cs) (hb : Below B w w') (hg : g < B) : Blk w' g t cs := (hb.block g hg).trans h
theorem Blk.ext (h : Blk w g t cs) (he : Ext w w') : Blk w' g t cs := h.below he h.lt
theorem Blk.grown {row : Option Nat} (h : Blk w g t cs) (hb : w.grownBy w' row) (hg : some g ≠ row) : Blk w' g t cs := (hb.block g h.lt hg).trans h
end
abbrev B8 (x : UInt8) : Value := .int .u8 (x.toNat : Int)
abbrev e8 (x : UInt8) : List Value := [B8 x]
abbrev e64 (x : Int) : List Value := [.int .i64 x]
theorem ret_int {k : IntKind} {a b : Int} (h : a = b) : Ending.returned (.int k a) = .returned (.int k b) := by rw [h]
theorem ret_bool {a b : Bool} (h : a = b) : Ending.returned (.bool a) = .returned (.bool b) := by rw [h]
theorem int_val {k : IntKind} {a b : Int} (h : a = b) : Value.int k a = .int k b := by rw [h]
theorem quiet_left {P : Program} {f : FuncId} {args : Array Value} {w : World} {n : Nat} {v : Value}
    (h : Calls P f args (w.drewN n) fun e w' => e = .returned v ∧ w.drewN n = w') : Calls P f args (w.drewN n) fun e w'' => e = .returned v ∧ ∃ m, w'' = w.drewN m :=
  h.mono fun _ _ ⟨he, hm⟩ => ⟨he, n, hm.symm⟩
end Go.Proofs.YtfelgolfebhmkaaDoor
