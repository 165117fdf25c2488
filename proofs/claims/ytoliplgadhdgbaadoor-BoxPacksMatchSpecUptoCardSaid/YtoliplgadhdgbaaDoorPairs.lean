/- Words for lists of pairs of numbers (spans, elements of a list) and for a result of a list and a fault. No condition. -/
import Derived.Test.YtoliplgadhdgbaaDoorBase
namespace Go.Proofs.YtoliplgadhdgbaaDoor
open Go.RowKit

/-- A pair of numbers, its cells. -/
abbrev e2 (x : Int × Int) : List Value := [.int .i64 x.1, .int .i64 x.2]
theorem len_e2 (x : Int × Int) : (e2 x).length = 2 := rfl
theorem one_e2 (x : Int × Int) : ∀ u ∈ e2 x, u.oneCell' = true := by
  intro u hu
  simp at hu
  rcases hu with rfl | rfl <;> rfl
theorem At.pair {w : World} {b off n c : Nat} {l : List (Int × Int)} (h : At w 2 e2 (some ⟨b, off, none⟩) n c l) {k : Nat} (hk : k < n) :
    w.cell? ⟨b, off + k * 2, none⟩ = some (.int .i64 (l.getD k (0, 0)).1) ∧ w.cell? ⟨b, off + k * 2 + 1, none⟩ = some (.int .i64 (l.getD k (0, 0)).2) := by
  have hl := h.len
  obtain ⟨b', off', e, hc⟩ := h.cells k _ (List.getElem?_eq_getElem (by omega))
  injection e with e
  injection e with e1 e2
  subst e1 e2
  have h0 := hc 0 _ rfl
  have h1 := hc 1 _ rfl
  rw [show l.getD k (0, 0) = l[k]'(by omega) by simp [List.getD, show k < l.length by omega]]
  exact ⟨by simpa using h0, h1⟩
theorem At.pair1 (w : World) (x y : Int) (t : TypeId) : At (w.alloc (.cells #[.int .i64 x, .int .i64 y] t)) 2 e2 (some ⟨w.heap.size, 0, none⟩) 1 1 [(x, y)] :=
  ⟨rfl, Nat.le_refl _, by unfold maxLen; omega, fun h => (by cases h), fun k z hz => ⟨_, _, rfl, fun j u hu => by
    match k, hz with
    | 0, hz =>
      simp at hz; subst hz
      match j, hu with
      | 0, hu =>
        simp at hu; subst hu
        exact (Blk.new w _ _).cell 0
      | 1, hu =>
        simp at hu; subst hu
        exact (Blk.new w _ _).cell 1
      | j + 2, hu => simp at hu
    | k + 1, hz => simp at hz⟩⟩
/-- A list and a fault. -/
def Gives {α : Type} (sz : Nat) (enc : α → List Value) (w : World) (l : List α) (f : Int) (e : Ending) (w' : World) : Prop :=
  ∃ A k c, e = .returned (.tuple #[.slice A k c, .int .i64 f]) ∧ At w' sz enc A k c l ∧ Ext w w'
theorem gives_nil {α : Type} {sz : Nat} {enc : α → List Value} {w w' : World} (f : Int) (h : Ext w w') : Gives sz enc w [] f (.returned (.tuple #[.slice none 0 0, .int .i64 f])) w' := ⟨none, 0, 0, rfl, At.nil _ _ _, h⟩
theorem gives_nil' {α : Type} {sz : Nat} {enc : α → List Value} {w w' : World} {l : List α} {f g : Int} (hf : f = g) (hl : l = []) (h : Ext w w') : Gives sz enc w l f (.returned (.tuple #[.slice none 0 0, .int .i64 g])) w' := by
  subst hf hl; exact gives_nil _ h
theorem gives_at {α : Type} {sz : Nat} {enc : α → List Value} {w w' : World} {l m : List α} {f g : Int} {A : Option Addr} {k c : Nat} (hf : f = g) (hl : m = l) (ha : At w' sz enc A k c m) (h : Ext w w') : Gives sz enc w l f (.returned (.tuple #[.slice A k c, .int .i64 g])) w' := by
  subst hf hl; exact ⟨A, k, c, rfl, ha, h⟩
theorem getD_take {α : Type} (l : List α) (k : Nat) (d : α) (h : k < l.length) : l.take (k + 1) = l.take k ++ [l.getD k d] := by
  rw [List.take_succ_eq_append_getElem h]
  simp [List.getD, h]
theorem mem_getD {α : Type} {l : List α} {x : α} (d : α) (h : x ∈ l) : ∃ j, j < l.length ∧ x = l.getD j d := by
  obtain ⟨j, hj, e⟩ := List.getElem_of_mem h
  exact ⟨j, hj, by simp [List.getD, hj, e]⟩
theorem getD_mem {α : Type} (l : List α) (k : Nat) (d : α) (h : k < l.length) : l.getD k d ∈ l := by
  simp [List.getD, h]
/-- The first fault of so many. -/
def firstF (g : Nat → Int) : Nat → Int
  | 0 => 0
  | n + 1 => if firstF g n ≠ 0 then firstF g n else g n
theorem firstF_zero {g : Nat → Int} : ∀ {n : Nat}, (∀ j, j < n → g j = 0) → firstF g n = 0
  | 0, _ => rfl
  | n + 1, h => by
    have ih := firstF_zero (g := g) (n := n) (fun j hj => h j (by omega))
    rw [firstF, if_neg (by omega)]
    exact h n (by omega)
theorem firstF_at {g : Nat → Int} {i : Nat} (h : ∀ j, j < i → g j = 0) (hi : g i ≠ 0) : ∀ {n : Nat}, i < n → firstF g n = g i
  | 0, hn => by omega
  | n + 1, hn => by
    by_cases e : i = n
    · subst e
      rw [firstF, if_neg (by rw [firstF_zero h]; omega)]
    · have ih := firstF_at h hi (n := n) (by omega)
      rw [firstF, if_pos (by omega), ih]
theorem firstF_all {g : Nat → Int} : ∀ {n : Nat}, firstF g n = 0 → ∀ j, j < n → g j = 0
  | 0, _, j, hj => by omega
  | n + 1, h, j, hj => by
    rw [firstF] at h
    by_cases h0 : firstF g n = 0
    · rw [if_neg (by omega)] at h
      by_cases e : j = n
      · rw [e]; exact h
      · exact firstF_all h0 j (by omega)
    · rw [if_pos h0] at h
      exact absurd h h0
/-! ### A row of pairs that the call owns: one of its cells is stored anew -/
theorem flat_set2a : ∀ (xs : List (Int × Int)) (k : Nat) (s : Int), (xs.flatMap e2).set (k * 2) (.int .i64 s) = (xs.set k (s, (xs.getD k (0, 0)).2)).flatMap e2
  | [], _, _ => rfl
  | x :: xs, 0, s => by simp [e2]
  | x :: xs, k + 1, s => by
    have ih := flat_set2a xs k s
    rw [List.flatMap_cons, show (k + 1) * 2 = k * 2 + 1 + 1 by omega]
    simp only [e2, List.cons_append, List.nil_append, List.set_cons_succ]
    rw [ih]
    simp [List.flatMap_cons, e2]
theorem flat_set2b : ∀ (xs : List (Int × Int)) (k : Nat) (s : Int), (xs.flatMap e2).set (k * 2 + 1) (.int .i64 s) = (xs.set k ((xs.getD k (0, 0)).1, s)).flatMap e2
  | [], _, _ => rfl
  | x :: xs, 0, s => by simp [e2]
  | x :: xs, k + 1, s => by
    have ih := flat_set2b xs k s
    rw [List.flatMap_cons, show (k + 1) * 2 + 1 = k * 2 + 1 + 1 + 1 by omega]
    simp only [e2, List.cons_append, List.nil_append, List.set_cons_succ]
    rw [ih]
    simp [List.flatMap_cons, e2]
section
variable {w : World} {base g n c : Nat} {t : TypeId} {xs : List (Int × Int)}
theorem Own.row2 (h : Own w base t 2 e2 (.slice (some ⟨g, 0, none⟩) n c) xs) :
    ∃ cur, Blk w g t cur ∧ n ≤ c ∧ c ≤ maxLen ∧ cur.size = c * 2 ∧ xs.length = n ∧ cur.toList.take (n * 2) = xs.flatMap e2 ∧ base ≤ g := by
  obtain ⟨h0, h⟩ := h
  rcases h with ⟨hv, _⟩ | ⟨g', cap, cur, hv, hb, hg, hnc, hcm, hcs, ht⟩
  · cases hv
  · injection hv with h1 h2 h3
    injection h1 with h1
    injection h1 with h1
    subst h1 h3
    exact ⟨cur, hg, by omega, hcm, by omega, h2.symm, by rw [h2]; exact ht, hb⟩
theorem Own.frozen2 (h : Own w base t 2 e2 (.slice (some ⟨g, 0, none⟩) n c) xs) (i : Nat) : w.frozen? ⟨g, i, none⟩ = false := by
  obtain ⟨cur, hg, _⟩ := h.row2
  exact hg.frozen i
theorem Own.setA (h : Own w base t 2 e2 (.slice (some ⟨g, 0, none⟩) n c) xs) (k : Nat) (s : Int) :
    Own (w.setCell ⟨g, k * 2, none⟩ (.int .i64 s)) base t 2 e2 (.slice (some ⟨g, 0, none⟩) n c) (xs.set k (s, (xs.getD k (0, 0)).2)) := by
  obtain ⟨cur, hg, hnc, hcm, hcs, hl, ht, hb⟩ := h.row2
  refine ⟨by rw [flat_len len_e2], .inr ⟨g, c, _, by rw [List.length_set, hl], hb, hg.set_ (k * 2) _, by rw [List.length_set, hl]; exact hnc, hcm, by simp [hcs], ?_⟩⟩
  rw [List.length_set, hl, Array.toList_setIfInBounds, List.take_set, ht]
  exact flat_set2a xs k s
theorem Own.setB (h : Own w base t 2 e2 (.slice (some ⟨g, 0, none⟩) n c) xs) (k : Nat) (s : Int) :
    Own (w.setCell ⟨g, k * 2 + 1, none⟩ (.int .i64 s)) base t 2 e2 (.slice (some ⟨g, 0, none⟩) n c) (xs.set k ((xs.getD k (0, 0)).1, s)) := by
  obtain ⟨cur, hg, hnc, hcm, hcs, hl, ht, hb⟩ := h.row2
  refine ⟨by rw [flat_len len_e2], .inr ⟨g, c, _, by rw [List.length_set, hl], hb, hg.set_ (k * 2 + 1) _, by rw [List.length_set, hl]; exact hnc, hcm, by simp [hcs], ?_⟩⟩
  rw [List.length_set, hl, Array.toList_setIfInBounds, List.take_set, ht]
  exact flat_set2b xs k s
theorem Own.set2 (h : Own w base t 2 e2 (.slice (some ⟨g, 0, none⟩) n c) xs) (k : Nat) (x y : Int) (hk : k < n) :
    Own ((w.setCell ⟨g, k * 2, none⟩ (.int .i64 x)).setCell ⟨g, k * 2 + 1, none⟩ (.int .i64 y)) base t 2 e2 (.slice (some ⟨g, 0, none⟩) n c) (xs.set k (x, y)) := by
  have hl : xs.length = n := h.len len_e2
  have := (h.setA k x).setB k y
  rw [List.set_set] at this
  simpa [List.getD, hl, hk] using this
theorem Own.where2 {A : Option Addr} (h : Own w base t 2 e2 (.slice A n c) xs) (hn : 0 < n) : ∃ g, A = some ⟨g, 0, none⟩ ∧ base ≤ g ∧ g < w.heap.size := by
  have hl := h.len len_e2
  unfold Own at h
  rw [hl] at h
  obtain ⟨g, cap, hv, hb, hg⟩ := World.ownsRow.form h hn
  injection hv with h1 h2 h3
  exact ⟨g, h1, hb, hg⟩
end
end Go.Proofs.YtoliplgadhdgbaaDoor
