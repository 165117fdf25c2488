/- An append onto an own row, met in a region that draws its order; a fresh cell that reads as a list. Conditions as stated. -/
import Derived.Test.YtoliplgadhdgbaaDoorBase
namespace Go.Proofs.YtoliplgadhdgbaaDoor
open Go.RowKit

theorem step_append_at {P : Program} {w : World} {α : Type} {enc : α → List Value} {size : Nat} {ops : Array Oper} {o : Oper} {a : Act} {K : Act → World → Prop} {Q : Exit → Act → World → Prop} {E : Prop} (hgd : o.guard = none) (s x : Operand) (t : TypeId)
    (ho : o.op = .call { callee := .builtin .append, args := #[s, x], argTypes := #[t, t] })
    (base : Nat) (e : TypeId) (i : TypeInfo) (z : Value) (bytes : Nat) (ht : P.underlying t = some (.slice e)) (hi : P.info? e = some i) (hz : i.zero = some z)
    (hsize : i.size = size) (hby : i.bytes = bytes) (hzs : z.cells.size = size) (hsz : 0 < size) (henc : ∀ x, (enc x).length = size) (h1 : ∀ x, ∀ u ∈ enc x, u.oneCell' = true)
    (v : Value) (xs : List α) (hs : a.eval s = v) (hown : Own w base e size enc v xs) (A : Option Addr) (m c : Nat) (ys : List α) (hx : a.eval x = .slice A m c) (hr : At w size enc A m c ys)
    (h63 : xs.length + m ≤ maxLen) (hbytes : (xs.length + m) * bytes ≤ 140737488355328) (hbase : base ≤ w.heap.size)
    (h : ∀ v' w', Own w' base e size enc v' (xs ++ ys) → w.grownBy w' v.ownBlock → (v' = .slice none 0 0 ↔ v = .slice none 0 0 ∧ m = 0) → (v'.ownBlock = v.ownBlock ∨ v'.ownBlock = some w.heap.size) → K (a.put o.dst v') w') :
    if Region.wanted o (yielded ops a.tmps) = true then Oper.wp P o a w K Q else E := by
  have hw : Region.wanted o (yielded ops a.tmps) = true := by simp [Region.wanted, hgd]
  rw [if_pos hw]
  exact wp_append_at w s x t ho base e i z bytes ht hi hz hsize hby hzs hsz henc h1 v xs hs hown A m c ys hx hr h63 hbytes hbase h
theorem len_e64 (x : Int) : (e64 x).length = 1 := rfl
theorem one_e64 (x : Int) : ∀ u ∈ e64 x, u.oneCell' = true := by intro u hu; simp at hu; subst hu; rfl
theorem At.new1 {α : Type} {enc : α → List Value} (w : World) (x : α) (u : Value) (hu : enc x = [u]) (t : TypeId) : At (w.alloc (.cells #[u] t)) 1 enc (some ⟨w.heap.size, 0, none⟩) 1 1 [x] :=
  ⟨rfl, Nat.le_refl _, by unfold maxLen; omega, fun h => (by cases h), fun k z hz => ⟨_, _, rfl, fun j v hv => by
    match k, hz with
    | 0, hz =>
      simp at hz; subst hz
      rw [hu] at hv
      match j, hv with
      | 0, hv =>
        simp at hv; subst hv
        exact (Blk.new w _ _).cell 0
      | j + 1, hv => simp at hv
    | k + 1, hz => simp at hz⟩⟩
/-- A cell of an element. -/
theorem At.cellK {α : Type} {w : World} {sz : Nat} {enc : α → List Value} {b off n c : Nat} {xs : List α} (h : At w sz enc (some ⟨b, off, none⟩) n c xs) {k : Nat} (hk : k < n) (d : α) (j : Nat) (u : Value) (hu : (enc (xs.getD k d))[j]? = some u) :
    w.cell? ⟨b, off + k * sz + j, none⟩ = some u := by
  have hl := h.len
  obtain ⟨b', off', e, hc⟩ := h.cells k _ (List.getElem?_eq_getElem (by omega))
  injection e with e
  injection e with e1 e2
  subst e1 e2
  refine hc j u ?_
  rw [show xs.getD k d = xs[k]'(by omega) by simp [List.getD, show k < xs.length by omega]] at hu
  exact hu
end Go.Proofs.YtoliplgadhdgbaaDoor
