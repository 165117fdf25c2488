/- Walk: laid (reference). Conditions as stated. -/
import Derived.Test.YtkbmgakehlmcnaaMtq31
namespace Go.Proofs.Ytkbmgakehlmcnaa
open Go.RowKit
structure Cel (W : World) (gp gt cg k : Nat) (u v : Value) : Prop where
  cell : W.cell? ⟨cg, k, none⟩ = some u
  n1 : cg ≠ gp
  n2 : cg ≠ gt
  n3 : v.ownBlock ≠ some cg
section
variable {W W' : World} {gp gt cg k : Nat} {u v : Value}
theorem cell_heap {W W' : World} {a : Addr} {u : Value} (h : W'.heap[a.block]? = W.heap[a.block]?) (hc : W.cell? a = some u) : W'.cell? a = some u := by
  unfold World.cell? at hc ⊢
  rw [h]
  exact hc
theorem Cel.ext (h : Cel W gp gt cg k u v) (he : Ext W W') : Cel W' gp gt cg k u v := ⟨he.cell h.cell, h.n1, h.n2, h.n3⟩
theorem Cel.set_ (h : Cel W gp gt cg k u v) {o i : Nat} {x : Value} (ho : o = gp ∨ o = gt) : Cel (W.setCell ⟨o, i, none⟩ x) gp gt cg k u v := by
  refine ⟨cell_heap ?_ h.cell, h.n1, h.n2, h.n3⟩
  exact Below.heap_setCell W ⟨o, i, none⟩ x cg (by
    intro e
    have e2 : cg = o := by simpa using e
    rcases ho with ho | ho
    · exact h.n1 (e2.trans ho)
    · exact h.n2 (e2.trans ho))
theorem Cel.row (h : Cel W gp gt cg k u v) {row : Option Nat} (hg : W.grownBy W' row) (hr : row ≠ some cg) : Cel W' gp gt cg k u v :=
  ⟨cell_heap (hg.block cg (by have := cell_lt h.cell; simpa using this) (fun e => hr e.symm)) h.cell, h.n1, h.n2, h.n3⟩
theorem Cel.out (h : Cel W gp gt cg k u v) {v' : Value} (hg : W.grownBy W' v.ownBlock) (hv : v'.ownBlock = v.ownBlock ∨ v'.ownBlock = some W.heap.size) : Cel W' gp gt cg k u v' := by
  have hlt : cg < W.heap.size := by have := cell_lt h.cell; simpa using this
  refine ⟨(h.row hg h.n3).cell, h.n1, h.n2, fun e => ?_⟩
  rcases hv with hv | hv
  · exact h.n3 (hv ▸ e)
  · rw [hv] at e; injection e with e; omega
end
end Go.Proofs.Ytkbmgakehlmcnaa
