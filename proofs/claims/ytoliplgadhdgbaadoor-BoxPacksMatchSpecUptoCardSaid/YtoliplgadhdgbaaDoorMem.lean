/- Words for stores into an owned row of one-cell elements. No condition. -/
import Derived.Test.YtoliplgadhdgbaaDoorBase
namespace Go.Proofs.YtoliplgadhdgbaaDoor
open Go.RowKit

theorem Own.where_ {α : Type} {w : World} {base : Nat} {t : TypeId} {sz : Nat} {enc : α → List Value} {A : Option Addr} {n c : Nat} {xs : List α} (h : Own w base t sz enc (.slice A n c) xs) (hn : 0 < n) (hl : xs.length = n) :
    ∃ g, A = some ⟨g, 0, none⟩ ∧ base ≤ g ∧ g < w.heap.size := by
  unfold Own at h
  rw [hl] at h
  obtain ⟨g, cap, hv, hb, hg⟩ := World.ownsRow.form h hn
  injection hv with h1 h2 h3
  exact ⟨g, h1, hb, hg⟩
theorem Own.row1 {α : Type} {w : World} {base : Nat} {t : TypeId} {enc : α → List Value} {g n c : Nat} {xs : List α} (h : Own w base t 1 enc (.slice (some ⟨g, 0, none⟩) n c) xs) :
    ∃ cur, Blk w g t cur ∧ n ≤ c ∧ c ≤ maxLen ∧ cur.size = c ∧ xs.length = n ∧ cur.toList.take n = xs.flatMap enc ∧ base ≤ g := by
  obtain ⟨h0, h⟩ := h
  rcases h with ⟨hv, _⟩ | ⟨g', cap, cur, hv, hb, hg, hnc, hcm, hcs, ht⟩
  · cases hv
  · injection hv with h1 h2 h3
    injection h1 with h1
    injection h1 with h1
    subst h1 h3
    exact ⟨cur, hg, by omega, hcm, by omega, h2.symm, by rw [h2]; rw [← ht, Nat.mul_one], hb⟩
theorem Own.frozen1 {α : Type} {w : World} {base : Nat} {t : TypeId} {enc : α → List Value} {g n c : Nat} {xs : List α} (h : Own w base t 1 enc (.slice (some ⟨g, 0, none⟩) n c) xs) (i : Nat) : w.frozen? ⟨g, i, none⟩ = false := by
  obtain ⟨cur, hg, _⟩ := h.row1
  exact hg.frozen i
theorem flat_set {α : Type} {enc : α → List Value} (hsz : ∀ x, (enc x).length = 1) : ∀ (xs : List α) (k : Nat) (x : α) (u : Value), enc x = [u] → (xs.flatMap enc).set k u = (xs.set k x).flatMap enc
  | [], _, _, _, _ => rfl
  | y :: ys, 0, x, u, hu => by
    have hy := hsz y
    rw [List.set_cons_zero, List.flatMap_cons, List.flatMap_cons, hu]
    match h : enc y, hy with
    | [v], _ => rfl
  | y :: ys, k + 1, x, u, hu => by
    have hy := hsz y
    rw [List.set_cons_succ, List.flatMap_cons, List.flatMap_cons, ← flat_set hsz ys k x u hu]
    match h : enc y, hy with
    | [v], _ => rfl
/-- An element of one cell is stored anew. -/
theorem Own.set1 {α : Type} {w : World} {base : Nat} {t : TypeId} {enc : α → List Value} {g n c : Nat} {xs : List α} (hsz : ∀ x, (enc x).length = 1) (h : Own w base t 1 enc (.slice (some ⟨g, 0, none⟩) n c) xs) (k : Nat) (x : α) (u : Value) (hu : enc x = [u]) :
    Own (w.setCell ⟨g, k, none⟩ u) base t 1 enc (.slice (some ⟨g, 0, none⟩) n c) (xs.set k x) := by
  obtain ⟨cur, hg, hnc, hcm, hcs, hl, ht, hb⟩ := h.row1
  refine ⟨by rw [flat_len hsz], .inr ⟨g, c, _, by rw [List.length_set, hl], hb, hg.set_ k u, by rw [List.length_set, hl]; exact hnc, hcm, by simp [hcs], ?_⟩⟩
  rw [List.length_set, hl, Nat.mul_one, Array.toList_setIfInBounds, List.take_set, ht]
  exact flat_set hsz xs k x u hu
end Go.Proofs.YtoliplgadhdgbaaDoor
