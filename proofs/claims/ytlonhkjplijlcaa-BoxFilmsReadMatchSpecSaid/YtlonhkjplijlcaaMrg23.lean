/- Several texts in one: The memory of compact: a table, its rows, one lemma a step. Conditions as stated; Walk: Compact (reference), given what compact makes. Conditions as stated; Plain: the table that compact makes. Conditions as stated; A result variable that is a table, read back. Conditions as stated. -/
import Derived.Test.YtlonhkjplijlcaaMrg21
import Derived.Test.YtlonhkjplijlcaaMrg22
import Derived.Test.YtlonhkjplijlcaaMrg12
namespace Go.Proofs.Ytlonhkjplijlcaa
open Go.RowKit
/-- Rows that lie apart from one another. -/
def ApartB (l : List (Option Nat)) : Prop := ∀ i j, i ≠ j → ∀ b, l.getD i none = some b → l.getD j none ≠ some b
theorem ApartB.set {l : List (Option Nat)} {N i : Nat} {v : Option Nat} (h : ApartB l) (hl : ∀ i b, l.getD i none = some b → b < N) (hv : v = l.getD i none ∨ ∃ b, v = some b ∧ N ≤ b) : ApartB (l.set i v) := by
  intro p q hpq b hp hq
  have key : ∀ k, (l.set i v).getD k none = if k = i ∧ i < l.length then v else l.getD k none := by
    intro k
    simp only [List.getD, List.getElem?_set]
    by_cases hk : i = k
    · subst hk
      by_cases h2 : i < l.length
      · simp [h2]
      · simp [h2]
    · rw [if_neg hk, if_neg (fun h => hk h.1.symm)]
  rw [key] at hp hq
  by_cases h1 : p = i ∧ i < l.length
  · rw [if_pos h1] at hp
    by_cases h2 : q = i ∧ i < l.length
    · exact hpq (h1.1.trans h2.1.symm)
    · rw [if_neg h2] at hq
      rcases hv with hv | ⟨c, hc, hN⟩
      · exact h p q hpq b (by rw [h1.1, ← hv]; exact hp) hq
      · have := hl q b hq
        rw [hc] at hp; injection hp with hp; omega
  · rw [if_neg h1] at hp
    by_cases h2 : q = i ∧ i < l.length
    · rw [if_pos h2] at hq
      rcases hv with hv | ⟨c, hc, hN⟩
      · exact h p q hpq b hp (by rw [h2.1, ← hv]; exact hq)
      · have := hl p b hp
        rw [hc] at hq; injection hq with hq; omega
    · rw [if_neg h2] at hq
      exact h p q hpq b hp hq
/-- A table that is made, in memory: cs stands in its cells, vs vh vz vk are the rows; a box besides. -/
structure CmI (w0 W : World) (gf : Nat) (cs : Array Value) (vs vh vz vk : Value) (S H : List (Int × Int)) (Z K : List Int) (x : Option Nat) (xs : Array Value) : Prop where
  gl : gf < w0.heap.size
  tab : Blk W gf 73 cs
  s : Own W w0.heap.size 119 2 e2 vs S
  h : Own W w0.heap.size 119 2 e2 vh H
  z : Own W w0.heap.size 3 1 e64 vz Z
  k : Own W w0.heap.size 3 1 e64 vk K
  ap : ApartB [vs.ownBlock, vh.ownBlock, vz.ownBlock, vk.ownBlock, x]
  box : ∀ b, x = some b → Blk W b 55 xs ∧ w0.heap.size ≤ b
  tw : Tw w0 W gf none
section
variable {w0 W W' : World} {gf : Nat} {cs : Array Value} {vs vh vz vk : Value} {S H : List (Int × Int)} {Z K : List Int} {x : Option Nat} {xs : Array Value}
theorem CmI.lt (h : CmI w0 W gf cs vs vh vz vk S H Z K x xs) : ∀ i b, [vs.ownBlock, vh.ownBlock, vz.ownBlock, vk.ownBlock, x].getD i none = some b → w0.heap.size ≤ b ∧ b < W.heap.size := by
  intro i b hb
  match i, hb with
  | 0, hb => exact h.s.lt b hb
  | 1, hb => exact h.h.lt b hb
  | 2, hb => exact h.z.lt b hb
  | 3, hb => exact h.k.lt b hb
  | 4, hb => exact ⟨(h.box b hb).2, (h.box b hb).1.lt⟩
  | i + 5, hb => simp at hb
/-- A store into the table. -/
theorem CmI.set_ (h : CmI w0 W gf cs vs vh vz vk S H Z K x xs) (i : Nat) (u : Value) : CmI w0 (W.setCell ⟨gf, i, none⟩ u) gf (cs.setIfInBounds i u) vs vh vz vk S H Z K x xs := by
  have hn : ∀ j b, [vs.ownBlock, vh.ownBlock, vz.ownBlock, vk.ownBlock, x].getD j none = some b → some b ≠ some gf := fun j b hb e => by
    injection e with e; have := (h.lt j b hb).1; have := h.gl; omega
  have ht := Tw.set_ W gf i u none
  exact ⟨h.gl, h.tab.set_ i u, h.s.tw ht (fun e => hn 0 _ e rfl) (fun _ _ e => by cases e), h.h.tw ht (fun e => hn 1 _ e rfl) (fun _ _ e => by cases e), h.z.tw ht (fun e => hn 2 _ e rfl) (fun _ _ e => by cases e), h.k.tw ht (fun e => hn 3 _ e rfl) (fun _ _ e => by cases e), h.ap,
    fun b hb => ⟨ht.blk (h.box b hb).1 (fun e => hn 4 b hb (by rw [e])) (by simp), (h.box b hb).2⟩, h.tw.trans ht⟩
end
section
variable {P : Program} {ops : Array Oper} {Q : Exit → Act → World → Prop} {md : Region.Mode} {S : World → Prop} {z : Nat}
end
end Go.Proofs.Ytlonhkjplijlcaa
namespace Go.Proofs.Ytlonhkjplijlcaa
open Go.RowKit
end Go.Proofs.Ytlonhkjplijlcaa
namespace Go.Proofs.Ytlonhkjplijlcaa
open Go.RowKit
end Go.Proofs.Ytlonhkjplijlcaa
namespace Go.Proofs.Ytlonhkjplijlcaa
open Go.RowKit
end Go.Proofs.Ytlonhkjplijlcaa
