/- Several texts in one: Walk: Expand (reference). Conditions as stated; A store into one cell of an element of an own row. Conditions as stated. -/
import Derived.Test.YtlonhkjplijlcaaMfd31
import Derived.Test.YtlonhkjplijlcaaMfd00
namespace Go.Proofs.Ytlonhkjplijlcaa
open Go.RowKit
def EgO (w : World) (t : Tab) (e : Ending) (w' : World) : Prop :=
  ∃ A n c B m d, e = .returned (.tuple #[.slice A n c, .slice B m d, .int .i64 (expF t)]) ∧ Own w' w.heap.size 55 5 eSm (.slice A n c) (if expF t = 0 then exS t else []) ∧ Own w' w.heap.size 78 2 e2 (.slice B m d) (if expF t = 0 then spS t else []) ∧ Ext w w'
theorem ego_bad {w w' : World} {t : Tab} {f : Int} (h : expF t = f) (hf : f ≠ 0) (he : Ext w w') : EgO w t (.returned (.tuple #[.slice none 0 0, .slice none 0 0, .int .i64 f])) w' :=
  ⟨none, 0, 0, none, 0, 0, by rw [h], by rw [if_neg (by omega)]; exact Own.nil _ _ _ _ _, by rw [if_neg (by omega)]; exact Own.nil _ _ _ _ _, he⟩
theorem ego_good {w w' : World} {t : Tab} {A : Option Addr} {n c : Nat} {B : Option Addr} {m d b1 b2 : Nat} (h : expF t = 0) (h1 : Own w' b1 55 5 eSm (.slice A n c) (exS t)) (h2 : Own w' b2 78 2 e2 (.slice B m d) (spS t)) (he : Ext w w') (hb1 : w.heap.size ≤ b1) (hb2 : w.heap.size ≤ b2) : EgO w t (.returned (.tuple #[.slice A n c, .slice B m d, .int .i64 0])) w' :=
  ⟨A, n, c, B, m, d, by rw [h], by rw [if_pos h]; exact h1.more hb1, by rw [if_pos h]; exact h2.more hb2, he⟩
theorem expF_tab {t : Tab} (h : tabF t ≠ 0) : expF t = tabF t := by unfold expF; rw [if_pos h]
theorem expF_big {t : Tab} (h : tabF t = 0) (h1 : (spS t).any bigS = true) : expF t = 1 := by unfold expF; rw [if_neg (by omega), if_pos h1]
theorem expF_ok {t : Tab} (h : tabF t = 0) (h1 : (spS t).any bigS = false) : expF t = 0 := by unfold expF; rw [if_neg (by omega), if_neg (by rw [h1]; simp)]
theorem flat_setF {α : Type} {enc : α → List Value} {sz : Nat} (hsz : ∀ x, (enc x).length = sz) (d : α) : ∀ (xs : List α) (k j : Nat) (x : α) (u : Value), k < xs.length → j < sz → enc x = (enc (xs.getD k d)).set j u → (xs.flatMap enc).set (k * sz + j) u = (xs.set k x).flatMap enc
  | [], k, _, _, _, hk, _, _ => absurd hk (Nat.not_lt_zero _)
  | y :: ys, 0, j, x, u, _, hj, hx => by
    have hy := hsz y
    rw [List.set_cons_zero, List.flatMap_cons, List.flatMap_cons, Nat.zero_mul, Nat.zero_add, List.set_append_left _ _ (by omega), hx]
    rfl
  | y :: ys, k + 1, j, x, u, hk, hj, hx => by
    have hy := hsz y
    rw [List.set_cons_succ, List.flatMap_cons, List.flatMap_cons, ← flat_setF hsz d ys k j x u (by simpa using hk) hj (by simpa using hx)]
    rw [List.set_append_right _ _ (by rw [hy, Nat.add_mul]; omega), hy]
    congr 2
    rw [Nat.add_mul]; omega
theorem Own.rowF {α : Type} {w : World} {base : Nat} {t : TypeId} {sz : Nat} {enc : α → List Value} {g n c : Nat} {xs : List α} (h : Own w base t sz enc (.slice (some ⟨g, 0, none⟩) n c) xs) :
    ∃ cur, Blk w g t cur ∧ n ≤ c ∧ c ≤ maxLen ∧ cur.size = c * sz ∧ xs.length = n ∧ cur.toList.take (n * sz) = xs.flatMap enc ∧ base ≤ g := by
  obtain ⟨h0, h⟩ := h
  rcases h with ⟨hv, _⟩ | ⟨g', cap, cur, hv, hb, hg, hnc, hcm, hcs, ht⟩
  · cases hv
  · injection hv with h1 h2 h3
    injection h1 with h1
    injection h1 with h1
    subst h1 h3
    exact ⟨cur, hg, by omega, hcm, hcs, h2.symm, by rw [h2]; rw [← ht], hb⟩
theorem Own.frozenF {α : Type} {w : World} {base : Nat} {t : TypeId} {sz : Nat} {enc : α → List Value} {g n c : Nat} {xs : List α} (h : Own w base t sz enc (.slice (some ⟨g, 0, none⟩) n c) xs) (i : Nat) : w.frozen? ⟨g, i, none⟩ = false := by
  obtain ⟨cur, hg, _⟩ := h.rowF
  exact hg.frozen i
theorem Own.setF {α : Type} {w : World} {base : Nat} {t : TypeId} {sz : Nat} {enc : α → List Value} {g n c : Nat} {xs : List α} (hsz : ∀ x, (enc x).length = sz) (h : Own w base t sz enc (.slice (some ⟨g, 0, none⟩) n c) xs) (d : α) (k j : Nat) (hk : k < n) (hj : j < sz) (x : α) (u : Value) (hx : enc x = (enc (xs.getD k d)).set j u) :
    Own (w.setCell ⟨g, k * sz + j, none⟩ u) base t sz enc (.slice (some ⟨g, 0, none⟩) n c) (xs.set k x) := by
  obtain ⟨cur, hg, hnc, hcm, hcs, hl, ht, hb⟩ := h.rowF
  refine ⟨by rw [flat_len hsz], .inr ⟨g, c, _, by rw [List.length_set, hl], hb, hg.set_ (k * sz + j) u, by rw [List.length_set, hl]; exact hnc, hcm, by simp [hcs], ?_⟩⟩
  rw [List.length_set, hl, Array.toList_setIfInBounds, List.take_set, ht]
  exact flat_setF hsz d xs k j x u (by omega) hj hx
end Go.Proofs.Ytlonhkjplijlcaa
