/- Several texts in one: Words for memory that all proofs of this seat share: a new world that only adds blocks, a slice that reads as a list, numbers of the unsigned kinds. No condition; Words for lists of pairs of numbers (spans, elements of a list) and for a result of a list and a fault. No condition; Samples in plain words: what is wrong with them. Plain; Walks: kit.Out, within. Conditions as stated; A world in which one block and one row have turned, and new blocks are there. No condition; An append onto an own row, met in a region that draws its order; a fresh cell that reads as a list. Conditions as stated. -/
import Derived.WalkKit
import Derived.WalkSpells
import Derived.WalkLawsBesides
import Derived.Deep.QuietTactic
import Derived.BigQuiet
import Derived.Lib.Hide
import Derived.Laws.BitsAllLaws
import Derived.Deep.Draws
import Derived.Maps.AppendAt
import Derived.Deep.AppendLies
import Derived.RegionTactic
import Derived.OwnWalk
import Derived.Test.YtkbmgakehlmcnaaProg
import Derived.Deep.RegionHeld3
import Derived.Deep.RegionWith
import Derived.StillTailTactics
import Derived.Handy
import Derived.Lib.MinMax
namespace Go.Proofs.Ytkbmgakehlmcnaa
open Go.RowKit
theorem hide {p : Prop} (h : p) : Hid p := h
abbrev Ext (w w' : World) : Prop := Below w.heap.size w w'
theorem Ext.refl (w : World) : Ext w w := Below.refl _ _
theorem Ext.trans {a b c : World} (h : Ext a b) (k : Ext b c) : Ext a c := Below.trans h (Below.mono k h.size)
theorem Ext.drewN (w : World) (n : Nat) : Ext w (w.drewN n) := ⟨rfl, rfl, rfl, Nat.le_refl _, fun _ _ => rfl⟩
theorem Ext.drew (w : World) : Ext w w.drew := ⟨rfl, rfl, rfl, Nat.le_refl _, fun _ _ => rfl⟩
theorem Ext.alloc (w : World) (o : Obj) : Ext w (w.alloc o) := (Below.refl _ _).alloc (Nat.le_refl _) o
theorem below_drewN {B : Nat} {a w : World} (h : Below B a w) (n : Nat) : Below B a (w.drewN n) := ⟨h.os, h.tape, h.output, h.size, h.block⟩
theorem ext_alloc {w a : World} (h : Below w.heap.size w a) (o : Obj) : Below w.heap.size w (a.alloc o) := h.alloc h.size o
theorem cell_lt {w : World} {a : Addr} {v : Value} (h : w.cell? a = some v) : a.block < w.heap.size := World.block_lt_of_cell? w a h
theorem Ext.cell {w w' : World} (h : Ext w w') {a : Addr} {v : Value} (hc : w.cell? a = some v) : w'.cell? a = some v :=
  (Below.cell h (cell_lt hc)).trans hc
theorem cell_spot {w : World} {a : Addr} {v : Value} (h : w.cell? a = some v) : a.spot = none := by
  unfold World.cell? at h
  split at h
  · split at h
    · cases h
    · rename_i hs; simpa using hs
  · cases h
theorem add_of_add (a : Addr) (i j : Nat) : (a.add i).add j = a.add (i + j) := by
  unfold Addr.add
  by_cases hi : i = 0 <;> by_cases hj : j = 0 <;> simp [hi, hj, Nat.add_assoc]
structure At {α : Type} (w : World) (sz : Nat) (enc : α → List Value) (A : Option Addr) (n c : Nat) (xs : List α) : Prop where
  len : xs.length = n
  le : n ≤ c
  max : c ≤ maxLen
  none_ : A = none → c = 0
  cells : ∀ (k : Nat) (x : α), xs[k]? = some x → ∃ b off, A = some ⟨b, off, none⟩ ∧ ∀ (j : Nat) (u : Value), (enc x)[j]? = some u → w.cell? ⟨b, off + k * sz + j, none⟩ = some u
def Sl {α : Type} (w : World) (sz : Nat) (enc : α → List Value) (v : Value) (xs : List α) : Prop :=
  ∃ (A : Option Addr) (n c : Nat), v = .slice A n c ∧ At w sz enc A n c xs
section
variable {α : Type} {w w' : World} {sz : Nat} {enc : α → List Value} {v : Value} {xs : List α} {A : Option Addr} {n c : Nat}
theorem At.sl (h : At w sz enc A n c xs) : Sl w sz enc (.slice A n c) xs := ⟨A, n, c, rfl, h⟩
theorem At.keep (h : At w sz enc A n c xs) (hk : ∀ (a : Addr) (u : Value), w.cell? a = some u → w'.cell? a = some u) : At w' sz enc A n c xs :=
  ⟨h.len, h.le, h.max, h.none_, fun k x hx => by
    obtain ⟨b, off, e, hc⟩ := h.cells k x hx
    exact ⟨b, off, e, fun j u hu => hk _ _ (hc j u hu)⟩⟩
theorem At.ext (h : At w sz enc A n c xs) (he : Ext w w') : At w' sz enc A n c xs := h.keep fun _ _ hc => he.cell hc
theorem Sl.ext (h : Sl w sz enc v xs) (he : Ext w w') : Sl w' sz enc v xs := by
  obtain ⟨A, n, c, rfl, ha⟩ := h
  exact (ha.ext he).sl
theorem At.nil (w : World) (sz : Nat) (enc : α → List Value) : At w sz enc none 0 0 ([] : List α) :=
  ⟨rfl, Nat.le_refl _, Nat.zero_le _, fun _ => rfl, fun k x hx => by simp at hx⟩
theorem Sl.nil (w : World) (sz : Nat) (enc : α → List Value) : Sl w sz enc (.slice none 0 0) ([] : List α) := (At.nil w sz enc).sl
theorem At.boundc (h : At w sz enc A n c xs) : c ≤ 9223372036854775807 := by
  have h2 := h.max; unfold maxLen at h2; omega
theorem At.bound (h : At w sz enc A n c xs) : n ≤ 9223372036854775807 := by
  have h1 := h.le; have h2 := h.boundc; omega
theorem At.addr (h : At w sz enc A n c xs) (hn : 0 < n) : ∃ b off, A = some ⟨b, off, none⟩ ∧
    ∀ (k : Nat) (hk : k < xs.length) (j : Nat) (u : Value), (enc xs[k])[j]? = some u → w.cell? ⟨b, off + k * sz + j, none⟩ = some u := by
  have h0 : 0 < xs.length := by have := h.len; omega
  obtain ⟨b, off, e, hc0⟩ := h.cells 0 _ (List.getElem?_eq_getElem h0)
  refine ⟨b, off, e, fun k hk j u hu => ?_⟩
  obtain ⟨b', off', e', hc⟩ := h.cells k _ (List.getElem?_eq_getElem hk)
  rw [e] at e'
  injection e' with e'
  injection e' with e1 e2
  subst e1 e2
  exact hc j u hu
theorem At.cut (h : At w sz enc A n c xs) {k : Nat} (hk : k ≤ n) :
    At w sz enc (if c = k then A else A.map (·.add (k * sz))) (n - k) (c - k) (xs.drop k) := by
  refine ⟨by have := h.len; simp; omega, by have := h.le; omega, by have := h.max; omega, fun hA => ?_, fun i x hx => ?_⟩
  · by_cases e : c = k
    · omega
    · rw [if_neg e] at hA
      have hA' : A = none := by simpa using hA
      have := h.none_ hA'; omega
  · have hi : i < (xs.drop k).length := (List.getElem?_eq_some_iff.1 hx).1
    simp only [List.length_drop, h.len] at hi
    have hle := h.le
    obtain ⟨b, off, rfl, hc⟩ := h.cells (k + i) x (by rw [List.getElem?_drop] at hx; exact hx)
    refine ⟨b, off + k * sz, ?_, fun j u hu => ?_⟩
    · rw [if_neg (by omega)]
      simp only [Option.map_some, Addr.add]
      split
      · rename_i e; rw [e]; rfl
      · rfl
    · have := hc j u hu
      rw [show off + k * sz + i * sz + j = off + (k + i) * sz + j by rw [Nat.add_mul]; omega]
      exact this
theorem At.cutAt {b off : Nat} (h : At w sz enc (some ⟨b, off, none⟩) n c xs) {k : Nat} (hk : k ≤ n) (hc : k < c) :
    At w sz enc (some ⟨b, off + k * sz, none⟩) (n - k) (c - k) (xs.drop k) := by
  have := h.cut hk
  rw [if_neg (by omega)] at this
  simp only [Option.map_some, Addr.add] at this
  split at this
  · rename_i e; rw [e]; exact this
  · exact this
theorem At.upto (h : At w sz enc A n c xs) {k : Nat} (hk : k ≤ n) : At w sz enc A k c (xs.take k) :=
  ⟨by have := h.len; simp; omega, by have := h.le; omega, h.max, h.none_, fun i x hx => h.cells i x (by
    rw [List.getElem?_take] at hx
    split at hx
    · exact hx
    · cases hx)⟩
end
def Own {α : Type} (w : World) (base : Nat) (t : TypeId) (sz : Nat) (enc : α → List Value) (v : Value) (xs : List α) : Prop := w.ownsRow base t sz v xs.length (xs.flatMap enc)
theorem flat_len {α : Type} {sz : Nat} {enc : α → List Value} (hsz : ∀ x, (enc x).length = sz) : ∀ xs : List α, (xs.flatMap enc).length = xs.length * sz
  | [] => by simp
  | x :: xs => by rw [List.flatMap_cons, List.length_append, hsz, flat_len hsz xs, List.length_cons, Nat.add_mul]; omega
theorem flat_get {α : Type} {sz : Nat} {enc : α → List Value} (hsz : ∀ x, (enc x).length = sz) : ∀ (xs : List α) (k : Nat) (x : α) (j : Nat) (u : Value), xs[k]? = some x → (enc x)[j]? = some u → (xs.flatMap enc)[k * sz + j]? = some u
  | y :: ys, 0, x, j, u, hx, hu => by
    simp at hx; subst hx
    rw [List.flatMap_cons, List.getElem?_append_left (by have := (List.getElem?_eq_some_iff.1 hu).1; simpa using this)]
    simpa using hu
  | y :: ys, k + 1, x, j, u, hx, hu => by
    simp only [List.getElem?_cons_succ] at hx
    have := flat_get hsz ys k x j u hx hu
    rw [List.flatMap_cons, List.getElem?_append_right (by rw [hsz, Nat.add_mul]; omega), hsz]
    rw [show (k + 1) * sz + j - sz = k * sz + j by rw [Nat.add_mul]; omega]
    exact this
section
variable {α : Type} {w w' : World} {base : Nat} {t : TypeId} {sz : Nat} {enc : α → List Value} {v : Value} {xs : List α}
theorem Own.nil (w : World) (base : Nat) (t : TypeId) (sz : Nat) (enc : α → List Value) : Own w base t sz enc (.slice none 0 0) ([] : List α) := World.ownsRow_nil w base t sz
theorem Own.at_ (h : Own w base t sz enc v xs) (hsz : ∀ x, (enc x).length = sz) : ∃ A c, v = .slice A xs.length c ∧ At w sz enc A xs.length c xs := by
  rcases h.2 with ⟨rfl, h0⟩ | ⟨g, cap, cur, rfl, hb, hg, hc, hm, hs, ht⟩
  · obtain rfl : xs = [] := List.eq_nil_of_length_eq_zero h0
    exact ⟨none, 0, rfl, At.nil _ _ _⟩
  · refine ⟨_, _, rfl, rfl, hc, hm, fun h => (by cases h), fun k x hx => ⟨g, 0, rfl, fun j u hu => ?_⟩⟩
    have hcells := h.cells (g := g) rfl (k * sz + j) u (flat_get hsz xs k x j u hx hu)
    have hadd : (⟨g, 0, none⟩ : Addr).add (k * sz + j) = ⟨g, 0 + k * sz + j, none⟩ := by unfold Addr.add; split <;> simp_all
    rw [hadd] at hcells
    exact hcells
theorem Own.atS {A : Option Addr} {n c : Nat} (h : Own w base t sz enc (.slice A n c) xs) (hsz : ∀ x, (enc x).length = sz) : At w sz enc A n c xs := by
  obtain ⟨A', c', e, ha⟩ := h.at_ hsz
  injection e with e1 e2 e3
  subst e1 e2 e3
  exact ha
theorem Own.len {A : Option Addr} {n c : Nat} (h : Own w base t sz enc (.slice A n c) xs) (hsz : ∀ x, (enc x).length = sz) : xs.length = n := (h.atS hsz).len
theorem Own.ext (h : Own w base t sz enc v xs) (he : Ext w w') : Own w' base t sz enc v xs :=
  World.ownsRow.kept h (row := none) ⟨he.os, he.tape, he.output, he.size, fun k hk _ => he.block k hk⟩ (by cases hv : v.ownBlock <;> simp)
theorem Own.more {base' : Nat} (h : Own w base t sz enc v xs) (hb : base' ≤ base) : Own w base' t sz enc v xs := by
  refine ⟨h.1, ?_⟩
  rcases h.2 with h2 | ⟨g, cap, cur, hv, hg, r⟩
  · exact .inl h2
  · exact .inr ⟨g, cap, cur, hv, by omega, r⟩
theorem Own.kept {row : Option Nat} (h : Own w base t sz enc v xs) (hg : w.grownBy w' row) (hne : v.ownBlock = none ∨ v.ownBlock ≠ row) : Own w' base t sz enc v xs := World.ownsRow.kept h hg hne
theorem Own.lt (h : Own w base t sz enc v xs) : ∀ k, v.ownBlock = some k → base ≤ k ∧ k < w.heap.size := World.ownsRow.lt h
theorem Own.below {w0 : World} (h : Own w base t sz enc v xs) (he : Ext w0 w) (hg : w.grownBy w' v.ownBlock) (hb : w0.heap.size ≤ base) : Ext w0 w' :=
  Below.grown he hg he.size fun k hk => by have := (h.lt k hk).1; omega
theorem grown_ext (h : w.grownBy w' none) : Ext w w' := (Below.refl _ _).grown h (Nat.le_refl _) (fun k h => by cases h)
theorem ext_grown (h : Ext w w') (row : Option Nat) : w.grownBy w' row := ⟨h.os, h.tape, h.output, h.size, fun k hk _ => h.block k hk⟩
end
section
variable {P : Program} (w : World)
theorem run_append_of_nil (base : Nat) (t ty e : TypeId) (i : TypeInfo) (size : Nat) (ht : P.underlying t = some (.slice e)) (hi : P.info? e = some i)
    (v : Value) (n : Nat) (xs : List Value) (hown : w.ownsRow base e size v n xs) (c : Nat) : (Builtin.append_ #[t, t] ty #[v, .slice none 0 c]).run P w = .ok v w := by
  rcases hown.2 with ⟨rfl, rfl⟩ | ⟨g, cap, cur, rfl, _, _, hnc, _⟩
  · simp [Builtin.append_, run_underlying ht, sizeOf, typeInfo, hi, Builtin.lenOf, Builtin.firstCells]
  · simp [Builtin.append_, run_underlying ht, sizeOf, typeInfo, hi, Builtin.lenOf, Builtin.firstCells, hnc, storeCells]
variable {α : Type} {enc : α → List Value} {size : Nat}
theorem run_append_at (base : Nat) (t ty e : TypeId) (i : TypeInfo) (z : Value) (bytes : Nat) (ht : P.underlying t = some (.slice e)) (hi : P.info? e = some i) (hz : i.zero = some z)
    (hsize : i.size = size) (hby : i.bytes = bytes) (hzs : z.cells.size = size) (hsz : 0 < size) (henc : ∀ x, (enc x).length = size) (h1 : ∀ x, ∀ u ∈ enc x, u.oneCell' = true)
    (v : Value) (xs : List α) (hown : Own w base e size enc v xs) (A : Option Addr) (m c : Nat) (ys : List α) (hr : At w size enc A m c ys)
    (h63 : xs.length + m ≤ maxLen) (hbytes : (xs.length + m) * bytes ≤ 140737488355328) (hbase : base ≤ w.heap.size) :
    ∃ v' w', (Builtin.append_ #[t, t] ty #[v, .slice A m c]).run P w = .ok v' w' ∧ Own w' base e size enc v' (xs ++ ys) ∧ w.grownBy w' v.ownBlock ∧
      (v' = .slice none 0 0 ↔ v = .slice none 0 0 ∧ m = 0) ∧ (v'.ownBlock = v.ownBlock ∨ v'.ownBlock = some w.heap.size) := by
  have hlen := hr.len
  have hone : ∀ u ∈ ys.flatMap enc, u.oneCell' = true := fun u hu => by
    obtain ⟨x, _, hx⟩ := List.mem_flatMap.1 hu
    exact h1 x u hx
  have done : ∀ ad : Addr, (∀ j u, (ys.flatMap enc)[j]? = some u → w.cell? (ad.add j) = some u) →
      ∃ v' w', (Builtin.append_ #[t, t] ty #[v, .slice (some ad) m c]).run P w = .ok v' w' ∧ Own w' base e size enc v' (xs ++ ys) ∧ w.grownBy w' v.ownBlock ∧
        (v' = .slice none 0 0 ↔ v = .slice none 0 0 ∧ m = 0) ∧ (v'.ownBlock = v.ownBlock ∨ v'.ownBlock = some w.heap.size) := fun ad hcells => by
    obtain ⟨v', w', hrun, h2, h3, h4, h5⟩ := run_append_own_at (P := P) w base t ty e i z size bytes ht hi hz hsize hby hzs hsz v xs.length (xs.flatMap enc) hown ad m c (ys.flatMap enc) (by rw [flat_len henc, hlen]) hcells hone h63 hbytes hbase
    refine ⟨v', w', hrun, ?_, h3, h4, h5⟩
    unfold Own
    rw [List.length_append, hlen, List.flatMap_append]
    exact h2
  rcases Nat.eq_zero_or_pos m with h0 | h0
  · subst h0
    have hn : ys = [] := List.eq_nil_of_length_eq_zero hlen
    subst hn
    cases A with
    | none => exact ⟨v, w, run_append_of_nil w base t ty e i size ht hi v _ _ hown c, by simpa using hown, World.grownBy.refl w _, by simp, .inl rfl⟩
    | some ad => exact done ad (fun j u hu => by simp at hu)
  · obtain ⟨b, off, rfl, hc⟩ := hr.addr h0
    refine done ⟨b, off, none⟩ (fun j u hu => ?_)
    have hj : j < m * size := by
      have := (List.getElem?_eq_some_iff.1 hu).1
      rw [flat_len henc, hlen] at this; exact this
    have hq : j / size < ys.length := by rw [hlen]; exact Nat.div_lt_of_lt_mul (by rw [Nat.mul_comm]; exact hj)
    have hmod : j % size < size := Nat.mod_lt _ hsz
    have hjj : j / size * size + j % size = j := by rw [Nat.mul_comm]; exact Nat.div_add_mod j size
    have hx : (enc ys[j / size])[j % size]? = some ((enc ys[j / size])[j % size]'(by rw [henc]; exact hmod)) := List.getElem?_eq_getElem _
    have hf := flat_get henc ys (j / size) _ (j % size) _ (List.getElem?_eq_getElem hq) hx
    rw [hjj, hu] at hf
    injection hf with hf
    have := hc (j / size) hq (j % size) u (by rw [hf]; exact hx)
    rw [Addr.add_lit]
    rw [show off + j / size * size + j % size = off + j by omega] at this
    exact this
theorem wp_append_at {o : Oper} {a : Act} {K : Act → World → Prop} {Q : Exit → Act → World → Prop} (s x : Operand) (t : TypeId)
    (ho : o.op = .call { callee := .builtin .append, args := #[s, x], argTypes := #[t, t] })
    (base : Nat) (e : TypeId) (i : TypeInfo) (z : Value) (bytes : Nat) (ht : P.underlying t = some (.slice e)) (hi : P.info? e = some i) (hz : i.zero = some z)
    (hsize : i.size = size) (hby : i.bytes = bytes) (hzs : z.cells.size = size) (hsz : 0 < size) (henc : ∀ x, (enc x).length = size) (h1 : ∀ x, ∀ u ∈ enc x, u.oneCell' = true)
    (v : Value) (xs : List α) (hs : a.eval s = v) (hown : Own w base e size enc v xs) (A : Option Addr) (m c : Nat) (ys : List α) (hx : a.eval x = .slice A m c) (hr : At w size enc A m c ys)
    (h63 : xs.length + m ≤ maxLen) (hbytes : (xs.length + m) * bytes ≤ 140737488355328) (hbase : base ≤ w.heap.size)
    (h : ∀ v' w', Own w' base e size enc v' (xs ++ ys) → w.grownBy w' v.ownBlock → (v' = .slice none 0 0 ↔ v = .slice none 0 0 ∧ m = 0) → (v'.ownBlock = v.ownBlock ∨ v'.ownBlock = some w.heap.size) → K (a.put o.dst v') w') : o.wp P a w K Q := by
  obtain ⟨v', w', hrun, h2, h3, h4, h5⟩ := run_append_at (P := P) w base t o.type e i z bytes ht hi hz hsize hby hzs hsz henc h1 v xs hown A m c ys hr h63 hbytes hbase
  unfold Oper.wp execOp
  simp only [ho, resolve, invoke, builtin, Sem.run_bind, Sem.run_pure, Result.andThen_ok, List.map_toArray, List.map_cons, List.map_nil, hs, hx, hrun]
  exact h v' w' h2 h3 h4 h5
theorem wpList_append_at {ops : Array Oper} {rest : List Oper} {o : Oper} {a : Act} {Q : Exit → Act → World → Prop} (hgd : o.guard = none) (s x : Operand) (t : TypeId)
    (ho : o.op = .call { callee := .builtin .append, args := #[s, x], argTypes := #[t, t] })
    (base : Nat) (e : TypeId) (i : TypeInfo) (z : Value) (bytes : Nat) (ht : P.underlying t = some (.slice e)) (hi : P.info? e = some i) (hz : i.zero = some z)
    (hsize : i.size = size) (hby : i.bytes = bytes) (hzs : z.cells.size = size) (hsz : 0 < size) (henc : ∀ x, (enc x).length = size) (h1 : ∀ x, ∀ u ∈ enc x, u.oneCell' = true)
    (v : Value) (xs : List α) (hs : a.eval s = v) (hown : Own w base e size enc v xs) (A : Option Addr) (m c : Nat) (ys : List α) (hx : a.eval x = .slice A m c) (hr : At w size enc A m c ys)
    (h63 : xs.length + m ≤ maxLen) (hbytes : (xs.length + m) * bytes ≤ 140737488355328) (hbase : base ≤ w.heap.size)
    (h : ∀ v' w', Own w' base e size enc v' (xs ++ ys) → w.grownBy w' v.ownBlock → (v' = .slice none 0 0 ↔ v = .slice none 0 0 ∧ m = 0) → (v'.ownBlock = v.ownBlock ∨ v'.ownBlock = some w.heap.size) → wpList P ops Q rest (a.put o.dst v') w') : wpList P ops Q (o :: rest) a w :=
  wpList_plain hgd fun _ hK => wp_append_at w s x t ho base e i z bytes ht hi hz hsize hby hzs hsz henc h1 v xs hs hown A m c ys hx hr h63 hbytes hbase fun v' w' h2 h3 h4 h5 => hK _ _ (h v' w' h2 h3 h4 h5)
end
def Blk (w : World) (g : Nat) (t : TypeId) (cs : Array Value) : Prop := w.heap[g]? = some (.cells cs t (0, 0))
section
variable {w w' : World} {g : Nat} {t : TypeId} {cs : Array Value}
theorem Blk.lt (h : Blk w g t cs) : g < w.heap.size := by
  rcases Nat.lt_or_ge g w.heap.size with hlt | hge
  · exact hlt
  · unfold Blk at h; rw [Array.getElem?_eq_none hge] at h; cases h
theorem Blk.cell (h : Blk w g t cs) (i : Nat) : w.cell? ⟨g, i, none⟩ = cs[i]? := cell_of_row w g i cs t (0, 0) h
theorem Blk.frozen (h : Blk w g t cs) (i : Nat) : w.frozen? ⟨g, i, none⟩ = false := by
  unfold Blk at h
  simp [World.frozen?, h]
theorem Blk.new (w : World) (t : TypeId) (cs : Array Value) : Blk (w.alloc (.cells cs t)) w.heap.size t cs := heap_alloc_new w _
theorem Blk.drew (h : Blk w g t cs) : Blk w.drew g t cs := h
theorem Blk.drewN (h : Blk w g t cs) (n : Nat) : Blk (w.drewN n) g t cs := h
theorem Blk.alloc (h : Blk w g t cs) (o : Obj) : Blk (w.alloc o) g t cs := (Below.heap_alloc w o g h.lt).trans h
theorem Blk.set_ (h : Blk w g t cs) (i : Nat) (u : Value) : Blk (w.setCell ⟨g, i, none⟩ u) g t (cs.setIfInBounds i u) := by
  unfold Blk at h ⊢
  simp [World.setCell, Array.getElem?_modify, h]
theorem Blk.far (h : Blk w g t cs) {p : Addr} (hp : g ≠ p.block) (u : Value) : Blk (w.setCell p u) g t cs := (Below.heap_setCell w p u g hp).trans h
theorem Blk.below {B : Nat} (h : Blk w g t cs) (hb : Below B w w') (hg : g < B) : Blk w' g t cs := (hb.block g hg).trans h
theorem Blk.ext (h : Blk w g t cs) (he : Ext w w') : Blk w' g t cs := h.below he h.lt
theorem Blk.grown {row : Option Nat} (h : Blk w g t cs) (hb : w.grownBy w' row) (hg : some g ≠ row) : Blk w' g t cs := (hb.block g h.lt hg).trans h
end
theorem u8lt (x : UInt8) : x.toNat < 256 := x.toNat_lt
theorem u32lt (x : UInt32) : x.toNat < 4294967296 := x.toNat_lt
abbrev B8 (x : UInt8) : Value := .int .u8 (x.toNat : Int)
abbrev e8 (x : UInt8) : List Value := [B8 x]
theorem flat8 (l : List UInt8) : l.flatMap e8 = l.map B8 := by induction l with
  | nil => rfl
  | cons x l ih => simp [ih]
theorem len_e8 (x : UInt8) : (e8 x).length = 1 := rfl
theorem one_e8 (x : UInt8) : ∀ u ∈ e8 x, u.oneCell' = true := by intro u hu; simp at hu; subst hu; rfl
abbrev e64 (x : Int) : List Value := [.int .i64 x]
theorem ret_int {k : IntKind} {a b : Int} (h : a = b) : Ending.returned (.int k a) = .returned (.int k b) := by rw [h]
theorem ret_bool {a b : Bool} (h : a = b) : Ending.returned (.bool a) = .returned (.bool b) := by rw [h]
theorem ret_val {a b : Value} (h : a = b) : Ending.returned a = .returned b := by rw [h]
theorem int_val {k : IntKind} {a b : Int} (h : a = b) : Value.int k a = .int k b := by rw [h]
theorem quiet_left {P : Program} {f : FuncId} {args : Array Value} {w : World} {n : Nat} {v : Value}
    (h : Calls P f args (w.drewN n) fun e w' => e = .returned v ∧ w.drewN n = w') : Calls P f args (w.drewN n) fun e w'' => e = .returned v ∧ ∃ m, w'' = w.drewN m :=
  h.mono fun _ _ ⟨he, hm⟩ => ⟨he, n, hm.symm⟩
theorem quiet_add_left {P : Program} {f : FuncId} {args : Array Value} {w : World} {a n : Nat} {v : Value}
    (h : Calls P f args (w.drewN (a + n)) fun e w' => e = .returned v ∧ w.drewN (a + n) = w') :
    Calls P f args (w.drewN (a + n)) fun e w'' => e = .returned v ∧ ∃ m, w'' = w.drewN (a + m) :=
  h.mono fun _ _ ⟨he, hm⟩ => ⟨he, n, hm.symm⟩
abbrev e2 (x : Int × Int) : List Value := [.int .i64 x.1, .int .i64 x.2]
theorem len_e2 (x : Int × Int) : (e2 x).length = 2 := rfl
theorem one_e2 (x : Int × Int) : ∀ u ∈ e2 x, u.oneCell' = true := by
  intro u hu
  simp at hu
  rcases hu with rfl | rfl <;> rfl
theorem At.pair {w : World} {b off n c : Nat} {l : List (Int × Int)} (h : At w 2 e2 (some ⟨b, off, none⟩) n c l) {k : Nat} (hk : k < n) :
    w.cell? ⟨b, off + k * 2, none⟩ = some (.int .i64 (l.getD k (0, 0)).1) ∧ w.cell? ⟨b, off + k * 2 + 1, none⟩ = some (.int .i64 (l.getD k (0, 0)).2) := by
  have hl := h.len
  obtain ⟨b', off', e, hc⟩ := h.cells k _ (List.getElem?_eq_getElem (by omega))
  injection e with e
  injection e with e1 e2
  subst e1 e2
  have h0 := hc 0 _ rfl
  have h1 := hc 1 _ rfl
  rw [show l.getD k (0, 0) = l[k]'(by omega) by simp [List.getD, show k < l.length by omega]]
  exact ⟨by simpa using h0, h1⟩
theorem At.pair1 (w : World) (x y : Int) (t : TypeId) : At (w.alloc (.cells #[.int .i64 x, .int .i64 y] t)) 2 e2 (some ⟨w.heap.size, 0, none⟩) 1 1 [(x, y)] :=
  ⟨rfl, Nat.le_refl _, by unfold maxLen; omega, fun h => (by cases h), fun k z hz => ⟨_, _, rfl, fun j u hu => by
    match k, hz with
    | 0, hz =>
      simp at hz; subst hz
      match j, hu with
      | 0, hu =>
        simp at hu; subst hu
        exact (Blk.new w _ _).cell 0
      | 1, hu =>
        simp at hu; subst hu
        exact (Blk.new w _ _).cell 1
      | j + 2, hu => simp at hu
    | k + 1, hz => simp at hz⟩⟩
def Gives {α : Type} (sz : Nat) (enc : α → List Value) (w : World) (l : List α) (f : Int) (e : Ending) (w' : World) : Prop :=
  ∃ A k c, e = .returned (.tuple #[.slice A k c, .int .i64 f]) ∧ At w' sz enc A k c l ∧ Ext w w'
theorem gives_nil {α : Type} {sz : Nat} {enc : α → List Value} {w w' : World} (f : Int) (h : Ext w w') : Gives sz enc w [] f (.returned (.tuple #[.slice none 0 0, .int .i64 f])) w' := ⟨none, 0, 0, rfl, At.nil _ _ _, h⟩
theorem gives_nil' {α : Type} {sz : Nat} {enc : α → List Value} {w w' : World} {l : List α} {f g : Int} (hf : f = g) (hl : l = []) (h : Ext w w') : Gives sz enc w l f (.returned (.tuple #[.slice none 0 0, .int .i64 g])) w' := by
  subst hf hl; exact gives_nil _ h
theorem gives_at {α : Type} {sz : Nat} {enc : α → List Value} {w w' : World} {l m : List α} {f g : Int} {A : Option Addr} {k c : Nat} (hf : f = g) (hl : m = l) (ha : At w' sz enc A k c m) (h : Ext w w') : Gives sz enc w l f (.returned (.tuple #[.slice A k c, .int .i64 g])) w' := by
  subst hf hl; exact ⟨A, k, c, rfl, ha, h⟩
theorem getD_take {α : Type} (l : List α) (k : Nat) (d : α) (h : k < l.length) : l.take (k + 1) = l.take k ++ [l.getD k d] := by
  rw [List.take_succ_eq_append_getElem h]
  simp [List.getD, h]
theorem mem_getD {α : Type} {l : List α} {x : α} (d : α) (h : x ∈ l) : ∃ j, j < l.length ∧ x = l.getD j d := by
  obtain ⟨j, hj, e⟩ := List.getElem_of_mem h
  exact ⟨j, hj, by simp [List.getD, hj, e]⟩
theorem getD_mem {α : Type} (l : List α) (k : Nat) (d : α) (h : k < l.length) : l.getD k d ∈ l := by
  simp [List.getD, h]
def firstF (g : Nat → Int) : Nat → Int
  | 0 => 0
  | n + 1 => if firstF g n ≠ 0 then firstF g n else g n
theorem firstF_zero {g : Nat → Int} : ∀ {n : Nat}, (∀ j, j < n → g j = 0) → firstF g n = 0
  | 0, _ => rfl
  | n + 1, h => by
    have ih := firstF_zero (g := g) (n := n) (fun j hj => h j (by omega))
    rw [firstF, if_neg (by omega)]
    exact h n (by omega)
theorem firstF_at {g : Nat → Int} {i : Nat} (h : ∀ j, j < i → g j = 0) (hi : g i ≠ 0) : ∀ {n : Nat}, i < n → firstF g n = g i
  | 0, hn => by omega
  | n + 1, hn => by
    by_cases e : i = n
    · subst e
      rw [firstF, if_neg (by rw [firstF_zero h]; omega)]
    · have ih := firstF_at h hi (n := n) (by omega)
      rw [firstF, if_pos (by omega), ih]
theorem firstF_all {g : Nat → Int} : ∀ {n : Nat}, firstF g n = 0 → ∀ j, j < n → g j = 0
  | 0, _, j, hj => by omega
  | n + 1, h, j, hj => by
    rw [firstF] at h
    by_cases h0 : firstF g n = 0
    · rw [if_neg (by omega)] at h
      by_cases e : j = n
      · rw [e]; exact h
      · exact firstF_all h0 j (by omega)
    · rw [if_pos h0] at h
      exact absurd h h0
theorem flat_set2a : ∀ (xs : List (Int × Int)) (k : Nat) (s : Int), (xs.flatMap e2).set (k * 2) (.int .i64 s) = (xs.set k (s, (xs.getD k (0, 0)).2)).flatMap e2
  | [], _, _ => rfl
  | x :: xs, 0, s => by simp [e2]
  | x :: xs, k + 1, s => by
    have ih := flat_set2a xs k s
    rw [List.flatMap_cons, show (k + 1) * 2 = k * 2 + 1 + 1 by omega]
    simp only [e2, List.cons_append, List.nil_append, List.set_cons_succ]
    rw [ih]
    simp [List.flatMap_cons, e2]
section
variable {w : World} {base g n c : Nat} {t : TypeId} {xs : List (Int × Int)}
theorem Own.row2 (h : Own w base t 2 e2 (.slice (some ⟨g, 0, none⟩) n c) xs) :
    ∃ cur, Blk w g t cur ∧ n ≤ c ∧ c ≤ maxLen ∧ cur.size = c * 2 ∧ xs.length = n ∧ cur.toList.take (n * 2) = xs.flatMap e2 ∧ base ≤ g := by
  obtain ⟨h0, h⟩ := h
  rcases h with ⟨hv, _⟩ | ⟨g', cap, cur, hv, hb, hg, hnc, hcm, hcs, ht⟩
  · cases hv
  · injection hv with h1 h2 h3
    injection h1 with h1
    injection h1 with h1
    subst h1 h3
    exact ⟨cur, hg, by omega, hcm, by omega, h2.symm, by rw [h2]; exact ht, hb⟩
theorem Own.frozen2 (h : Own w base t 2 e2 (.slice (some ⟨g, 0, none⟩) n c) xs) (i : Nat) : w.frozen? ⟨g, i, none⟩ = false := by
  obtain ⟨cur, hg, _⟩ := h.row2
  exact hg.frozen i
theorem Own.setA (h : Own w base t 2 e2 (.slice (some ⟨g, 0, none⟩) n c) xs) (k : Nat) (s : Int) :
    Own (w.setCell ⟨g, k * 2, none⟩ (.int .i64 s)) base t 2 e2 (.slice (some ⟨g, 0, none⟩) n c) (xs.set k (s, (xs.getD k (0, 0)).2)) := by
  obtain ⟨cur, hg, hnc, hcm, hcs, hl, ht, hb⟩ := h.row2
  refine ⟨by rw [flat_len len_e2], .inr ⟨g, c, _, by rw [List.length_set, hl], hb, hg.set_ (k * 2) _, by rw [List.length_set, hl]; exact hnc, hcm, by simp [hcs], ?_⟩⟩
  rw [List.length_set, hl, Array.toList_setIfInBounds, List.take_set, ht]
  exact flat_set2a xs k s
theorem Own.where2 {A : Option Addr} (h : Own w base t 2 e2 (.slice A n c) xs) (hn : 0 < n) : ∃ g, A = some ⟨g, 0, none⟩ ∧ base ≤ g ∧ g < w.heap.size := by
  have hl := h.len len_e2
  unfold Own at h
  rw [hl] at h
  obtain ⟨g, cap, hv, hb, hg⟩ := World.ownsRow.form h hn
  injection hv with h1 h2 h3
  exact ⟨g, h1, hb, hg⟩
end
end Go.Proofs.Ytkbmgakehlmcnaa
namespace Go.Proofs.Ytkbmgakehlmcnaa
structure Smp where
  time : Int
  step : Int
  shift : Int
  size : Int
  key : Bool
deriving Inhabited
def dS : Smp := ⟨0, 0, 0, 0, false⟩
def noT (n : Int) : Bool := decide (n < -1000000000000000 ∨ 1000000000000000 < n)
def badS (x : Smp) : Bool := noT x.time || decide (x.step < 0 ∨ 1000000000 < x.step) || decide (x.shift < -1000000000 ∨ 1000000000 < x.shift) || decide (x.size < 0 ∨ 100000 < x.size)
def smpEl (l : List Smp) (i : Nat) : Int :=
  if badS (l.getD i dS) = true then 1 else if 0 < i ∧ (l.getD i dS).time ≠ (l.getD (i - 1) dS).time + (l.getD (i - 1) dS).step then 8 else 0
def endS (l : List Smp) : Int := (l.getD (l.length - 1) dS).time + (l.getD (l.length - 1) dS).step
def smpF (l : List Smp) : Int :=
  if 5000 < l.length then 2 else if firstF (smpEl l) l.length ≠ 0 then firstF (smpEl l) l.length else if 0 < l.length ∧ noT (endS l) = true then 1 else 0
theorem badS_ok {x : Smp} (h : badS x = false) : (-1000000000000000 ≤ x.time ∧ x.time ≤ 1000000000000000) ∧ (0 ≤ x.step ∧ x.step ≤ 1000000000) ∧ (-1000000000 ≤ x.shift ∧ x.shift ≤ 1000000000) ∧ (0 ≤ x.size ∧ x.size ≤ 100000) := by
  unfold badS noT at h
  simp only [Bool.or_eq_false_iff, decide_eq_false_iff_not] at h
  omega
theorem smpEl_zero {l : List Smp} {i : Nat} (h : smpEl l i = 0) : badS (l.getD i dS) = false ∧ (0 < i → (l.getD i dS).time = (l.getD (i - 1) dS).time + (l.getD (i - 1) dS).step) := by
  unfold smpEl at h
  cases hb : badS (l.getD i dS) with
  | true => rw [hb, if_pos rfl] at h; omega
  | false =>
    refine ⟨rfl, fun hi => Classical.byContradiction fun hc => ?_⟩
    rw [hb, if_neg (by simp), if_pos ⟨hi, hc⟩] at h
    omega
theorem smpF_zero {l : List Smp} (h : smpF l = 0) : l.length ≤ 5000 ∧ (∀ i, i < l.length → smpEl l i = 0) ∧ (0 < l.length → noT (endS l) = false) := by
  unfold smpF at h
  by_cases h1 : 5000 < l.length
  · rw [if_pos h1] at h; omega
  rw [if_neg h1] at h
  by_cases h2 : firstF (smpEl l) l.length ≠ 0
  · rw [if_pos h2] at h; exact absurd h h2
  rw [if_neg h2] at h
  refine ⟨by omega, firstF_all (by omega), fun hl => ?_⟩
  cases hb : noT (endS l) with
  | false => rfl
  | true => rw [if_pos ⟨hl, hb⟩] at h; omega
end Go.Proofs.Ytkbmgakehlmcnaa
namespace Go.Proofs.Ytkbmgakehlmcnaa
open Go.RowKit
theorem out_no {n lo hi : Int} (h : lo ≤ n ∧ n ≤ hi) (w : World) :
    Calls Try.prog 14 #[.int .i64 n, .int .i64 lo, .int .i64 hi] w fun e w' => e = .returned (.bool false) ∧ w = w' := by
  obtain ⟨h1, h2⟩ := h
  go_enter Try.func14, Try.ntmps14
  go_wp2
  go_ret
  exact ⟨ret_bool (by first | rfl | (simp; omega)), rfl⟩
theorem out_yes {n lo hi : Int} (h : n < lo ∨ hi < n) (w : World) :
    Calls Try.prog 14 #[.int .i64 n, .int .i64 lo, .int .i64 hi] w fun e w' => e = .returned (.bool true) ∧ w = w' := by
  by_cases h1 : n < lo
  · clear h
    go_enter Try.func14, Try.ntmps14
    go_wp2
    go_ret
    exact ⟨ret_bool (by first | rfl | (simp; omega)), rfl⟩
  · have h2 : hi < n := by omega
    clear h
    go_enter Try.func14, Try.ntmps14
    go_wp2
    go_ret
    exact ⟨ret_bool (by first | rfl | (simp; omega)), rfl⟩
theorem At.num {w : World} {b off n c : Nat} {l : List Int} (h : At w 1 e64 (some ⟨b, off, none⟩) n c l) {k : Nat} (hk : k < n) : w.cell? ⟨b, off + k, none⟩ = some (.int .i64 (l.getD k 0)) := by
  have hl := h.len
  obtain ⟨b', off', e, hc⟩ := h.cells k _ (List.getElem?_eq_getElem (by omega))
  injection e with e
  injection e with e1 e2
  subst e1 e2
  have := hc 0 _ rfl
  rw [show l.getD k 0 = l[k]'(by omega) by simp [List.getD, show k < l.length by omega]]
  simpa using this
structure Tw (w w' : World) (o : Nat) (row : Option Nat) : Prop where
  os : w'.os = w.os
  tape : w'.tape = w.tape
  output : w'.output = w.output
  size : w.heap.size ≤ w'.heap.size
  block : ∀ k, k < w.heap.size → k ≠ o → some k ≠ row → w'.heap[k]? = w.heap[k]?
theorem Tw.of_ext {w w' : World} (h : Ext w w') (o : Nat) (row : Option Nat) : Tw w w' o row := ⟨h.os, h.tape, h.output, h.size, fun k hk _ _ => h.block k hk⟩
theorem Tw.of_grown {w w' : World} {o : Nat} {row : Option Nat} (h : w.grownBy w' row) : Tw w w' o row := ⟨h.os, h.tape, h.output, h.size, fun k hk _ hr => h.block k hk hr⟩
theorem Tw.more {w w' : World} {o : Nat} (h : Tw w w' o none) (row : Option Nat) : Tw w w' o row := ⟨h.os, h.tape, h.output, h.size, fun k hk ho _ => h.block k hk ho (by simp)⟩
theorem Tw.refl (w : World) (o : Nat) (row : Option Nat) : Tw w w o row := Tw.of_ext (Ext.refl w) o row
theorem Tw.set_ (w : World) (o i : Nat) (v : Value) (row : Option Nat) : Tw w (w.setCell ⟨o, i, none⟩ v) o row :=
  ⟨rfl, rfl, rfl, by simp [World.setCell], fun k _ hk _ => Below.heap_setCell w ⟨o, i, none⟩ v k (by simpa using hk)⟩
theorem Tw.trans {a b c : World} {o : Nat} {row : Option Nat} (h : Tw a b o row) (k : Tw b c o row) : Tw a c o row :=
  ⟨k.os.trans h.os, k.tape.trans h.tape, k.output.trans h.output, Nat.le_trans h.size k.size, fun j hj ho hr => (k.block j (Nat.lt_of_lt_of_le hj h.size) ho hr).trans (h.block j hj ho hr)⟩
theorem Tw.drew {w w' : World} {o : Nat} {row : Option Nat} (h : Tw w w' o row) : Tw w w'.drew o row := ⟨h.os, h.tape, h.output, h.size, h.block⟩
theorem Tw.drewN {w w' : World} {o : Nat} {row : Option Nat} (h : Tw w w' o row) (n : Nat) : Tw w (w'.drewN n) o row := ⟨h.os, h.tape, h.output, h.size, h.block⟩
theorem Tw.blk {w w' : World} {o g : Nat} {row : Option Nat} {t : TypeId} {cs : Array Value} (h : Tw w w' o row) (hb : Blk w g t cs) (ho : g ≠ o) (hr : some g ≠ row) : Blk w' g t cs := (h.block g hb.lt ho hr).trans hb
theorem Tw.below {w w' : World} {o : Nat} {row : Option Nat} {C : Nat} (h : Tw w w' o row) (hC : C ≤ w.heap.size) (ho : C ≤ o) (hr : ∀ g, row = some g → C ≤ g) : Below C w w' :=
  ⟨h.os, h.tape, h.output, h.size, fun k hk => h.block k (by omega) (by omega) (fun e => by have := hr k e.symm; omega)⟩
theorem Own.tw {α : Type} {w w' : World} {base : Nat} {t : TypeId} {sz : Nat} {enc : α → List Value} {v : Value} {xs : List α} {o : Nat} {row : Option Nat} (h : Own w base t sz enc v xs) (hF : Tw w w' o row)
    (h1 : v.ownBlock ≠ some o) (h2 : ∀ g, v.ownBlock = some g → row ≠ some g) : Own w' base t sz enc v xs := by
  refine ⟨h.1, ?_⟩
  have hlt := h.lt
  rcases h.2 with h3 | ⟨g, cap, cur, hv, hb, hg, r⟩
  · exact .inl h3
  · have hvg : v.ownBlock = some g := by rw [hv]; rfl
    have hgl := (hlt g hvg).2
    exact .inr ⟨g, cap, cur, hv, hb, (hF.block g hgl (fun e => h1 (by rw [hvg, e])) (fun e => h2 g hvg e.symm)).trans hg, r⟩
theorem At.tw {α : Type} {w w' : World} {sz : Nat} {enc : α → List Value} {A : Option Addr} {n c : Nat} {xs : List α} {o : Nat} {row : Option Nat} (h : At w sz enc A n c xs) (hF : Tw w w' o row) (hne : ∀ a, A = some a → a.block ≠ o ∧ some a.block ≠ row) : At w' sz enc A n c xs :=
  ⟨h.len, h.le, h.max, h.none_, fun k x hx => by
    obtain ⟨b, off, e, hc⟩ := h.cells k x hx
    obtain ⟨h1, h2⟩ := hne _ e
    refine ⟨b, off, e, fun j u hu => ?_⟩
    have h3 := hc j u hu
    have h4 := hF.block b (by have := cell_lt h3; simpa using this) h1 h2
    unfold World.cell? at h3 ⊢
    simp only at h3 ⊢
    rw [h4]
    exact h3⟩
theorem grown_set (w : World) (g i : Nat) (v : Value) : w.grownBy (w.setCell ⟨g, i, none⟩ v) (some g) :=
  ⟨rfl, rfl, rfl, by simp [World.setCell], fun k _ hk => Below.heap_setCell _ _ _ k (fun h => hk (by rw [h]))⟩
theorem gen_bod {P : Program} {f : Func} {Q : Ending → World → Prop} {x : Exit} {a : Act} {W : World} (h : ∀ W', W' = W → bodyPost P f Q x a W') : bodyPost P f Q x a W := h W rfl
theorem gen_wpC {P : Program} {c : Code} {Q : Exit → Act → World → Prop} {a : Act} {W : World} (h : ∀ W', W' = W → Code.wp P c Q a W') : Code.wp P c Q a W := h W rfl
theorem gen_blo {n : Nat} {Q : Exit → Act → World → Prop} {e : Exit} {a : Act} {w : World} (h : ∀ W, W = w → Exit.inBlock n Q e a W) : Exit.inBlock n Q e a w := h w rfl
theorem step_append_at {P : Program} {w : World} {α : Type} {enc : α → List Value} {size : Nat} {ops : Array Oper} {o : Oper} {a : Act} {K : Act → World → Prop} {Q : Exit → Act → World → Prop} {E : Prop} (hgd : o.guard = none) (s x : Operand) (t : TypeId)
    (ho : o.op = .call { callee := .builtin .append, args := #[s, x], argTypes := #[t, t] })
    (base : Nat) (e : TypeId) (i : TypeInfo) (z : Value) (bytes : Nat) (ht : P.underlying t = some (.slice e)) (hi : P.info? e = some i) (hz : i.zero = some z)
    (hsize : i.size = size) (hby : i.bytes = bytes) (hzs : z.cells.size = size) (hsz : 0 < size) (henc : ∀ x, (enc x).length = size) (h1 : ∀ x, ∀ u ∈ enc x, u.oneCell' = true)
    (v : Value) (xs : List α) (hs : a.eval s = v) (hown : Own w base e size enc v xs) (A : Option Addr) (m c : Nat) (ys : List α) (hx : a.eval x = .slice A m c) (hr : At w size enc A m c ys)
    (h63 : xs.length + m ≤ maxLen) (hbytes : (xs.length + m) * bytes ≤ 140737488355328) (hbase : base ≤ w.heap.size)
    (h : ∀ v' w', Own w' base e size enc v' (xs ++ ys) → w.grownBy w' v.ownBlock → (v' = .slice none 0 0 ↔ v = .slice none 0 0 ∧ m = 0) → (v'.ownBlock = v.ownBlock ∨ v'.ownBlock = some w.heap.size) → K (a.put o.dst v') w') :
    if Region.wanted o (yielded ops a.tmps) = true then Oper.wp P o a w K Q else E := by
  have hw : Region.wanted o (yielded ops a.tmps) = true := by simp [Region.wanted, hgd]
  rw [if_pos hw]
  exact wp_append_at w s x t ho base e i z bytes ht hi hz hsize hby hzs hsz henc h1 v xs hs hown A m c ys hx hr h63 hbytes hbase h
theorem len_e64 (x : Int) : (e64 x).length = 1 := rfl
theorem one_e64 (x : Int) : ∀ u ∈ e64 x, u.oneCell' = true := by intro u hu; simp at hu; subst hu; rfl
theorem At.new1 {α : Type} {enc : α → List Value} (w : World) (x : α) (u : Value) (hu : enc x = [u]) (t : TypeId) : At (w.alloc (.cells #[u] t)) 1 enc (some ⟨w.heap.size, 0, none⟩) 1 1 [x] :=
  ⟨rfl, Nat.le_refl _, by unfold maxLen; omega, fun h => (by cases h), fun k z hz => ⟨_, _, rfl, fun j v hv => by
    match k, hz with
    | 0, hz =>
      simp at hz; subst hz
      rw [hu] at hv
      match j, hv with
      | 0, hv =>
        simp at hv; subst hv
        exact (Blk.new w _ _).cell 0
      | j + 1, hv => simp at hv
    | k + 1, hz => simp at hz⟩⟩
theorem At.cellK {α : Type} {w : World} {sz : Nat} {enc : α → List Value} {b off n c : Nat} {xs : List α} (h : At w sz enc (some ⟨b, off, none⟩) n c xs) {k : Nat} (hk : k < n) (d : α) (j : Nat) (u : Value) (hu : (enc (xs.getD k d))[j]? = some u) :
    w.cell? ⟨b, off + k * sz + j, none⟩ = some u := by
  have hl := h.len
  obtain ⟨b', off', e, hc⟩ := h.cells k _ (List.getElem?_eq_getElem (by omega))
  injection e with e
  injection e with e1 e2
  subst e1 e2
  refine hc j u ?_
  rw [show xs.getD k d = xs[k]'(by omega) by simp [List.getD, show k < xs.length by omega]] at hu
  exact hu
end Go.Proofs.Ytkbmgakehlmcnaa
