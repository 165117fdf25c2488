/- Several texts in one: Words for lists of pairs of numbers (spans, elements of a list) and for a result of a list and a fault. No condition; Walks: kit.Out, within. Conditions as stated. -/
import Derived.Test.YtfelgolfebhmkaaDoorMtm00
import Derived.Test.YtfelgolfebhmkaaDoorProg
import Derived.Deep.RegionHeld3
import Derived.Deep.RegionWith
import Derived.StillTailTactics
import Derived.Handy
import Derived.Lib.MinMax
namespace Go.Proofs.YtfelgolfebhmkaaDoor
open Go.RowKit
abbrev e2 (x : Int × Int) : List Value := [.int .i64 x.1, .int .i64 x.2]
theorem len_e2 (x : Int × Int) : (e2 x).length = 2 := rfl
theorem one_e2 (x : Int × Int) : ∀ u ∈ e2 x, u.oneCell' = true := by
  intro u hu
  simp at hu
  rcases hu with rfl | rfl <;> rfl
theorem At.pair {w : World} {b off n c : Nat} {l : List (Int × Int)} (h : At w 2 e2 (some ⟨b, off, none⟩) n c l) {k : Nat} (hk : k < n) :
    w.cell? ⟨b, off + k * 2, none⟩ = some (.int .i64 (l.getD k (0, 0)).1) ∧ w.cell? ⟨b, off + k * 2 + 1, none⟩ = some (.int .i64 (l.getD k (0, 0)).2) := by
  have hl := h.len
  obtain ⟨b', off', e, hc⟩ := h.cells k _ (List.getElem?_eq_getElem (by omega))
  injection e with e
  injection e with e1 e2
  subst e1 e2
  have h0 := hc 0 _ rfl
  have h1 := hc 1 _ rfl
  rw [show l.getD k (0, 0) = l[k]'(by omega) by simp [List.getD, show k < l.length by omega]]
  exact ⟨by simpa using h0, h1⟩
theorem At.pair1 (w : World) (x y : Int) (t : TypeId) : At (w.alloc (.cells #[.int .i64 x, .int .i64 y] t)) 2 e2 (some ⟨w.heap.size, 0, none⟩) 1 1 [(x, y)] :=
  ⟨rfl, Nat.le_refl _, by unfold maxLen; omega, fun h => (by cases h), fun k z hz => ⟨_, _, rfl, fun j u hu => by
    match k, hz with
    | 0, hz =>
      simp at hz; subst hz
      match j, hu with
      | 0, hu =>
        simp at hu; subst hu
        exact (Blk.new w _ _).cell 0
      | 1, hu =>
        simp at hu; subst hu
        exact (Blk.new w _ _).cell 1
      | j + 2, hu => simp at hu
    | k + 1, hz => simp at hz⟩⟩
def Gives {α : Type} (sz : Nat) (enc : α → List Value) (w : World) (l : List α) (f : Int) (e : Ending) (w' : World) : Prop :=
  ∃ A k c, e = .returned (.tuple #[.slice A k c, .int .i64 f]) ∧ At w' sz enc A k c l ∧ Ext w w'
theorem gives_nil {α : Type} {sz : Nat} {enc : α → List Value} {w w' : World} (f : Int) (h : Ext w w') : Gives sz enc w [] f (.returned (.tuple #[.slice none 0 0, .int .i64 f])) w' := ⟨none, 0, 0, rfl, At.nil _ _ _, h⟩
theorem mem_getD {α : Type} {l : List α} {x : α} (d : α) (h : x ∈ l) : ∃ j, j < l.length ∧ x = l.getD j d := by
  obtain ⟨j, hj, e⟩ := List.getElem_of_mem h
  exact ⟨j, hj, by simp [List.getD, hj, e]⟩
theorem getD_mem {α : Type} (l : List α) (k : Nat) (d : α) (h : k < l.length) : l.getD k d ∈ l := by
  simp [List.getD, h]
def firstF (g : Nat → Int) : Nat → Int
  | 0 => 0
  | n + 1 => if firstF g n ≠ 0 then firstF g n else g n
theorem firstF_zero {g : Nat → Int} : ∀ {n : Nat}, (∀ j, j < n → g j = 0) → firstF g n = 0
  | 0, _ => rfl
  | n + 1, h => by
    have ih := firstF_zero (g := g) (n := n) (fun j hj => h j (by omega))
    rw [firstF, if_neg (by omega)]
    exact h n (by omega)
theorem firstF_at {g : Nat → Int} {i : Nat} (h : ∀ j, j < i → g j = 0) (hi : g i ≠ 0) : ∀ {n : Nat}, i < n → firstF g n = g i
  | 0, hn => by omega
  | n + 1, hn => by
    by_cases e : i = n
    · subst e
      rw [firstF, if_neg (by rw [firstF_zero h]; omega)]
    · have ih := firstF_at h hi (n := n) (by omega)
      rw [firstF, if_pos (by omega), ih]
theorem firstF_all {g : Nat → Int} : ∀ {n : Nat}, firstF g n = 0 → ∀ j, j < n → g j = 0
  | 0, _, j, hj => by omega
  | n + 1, h, j, hj => by
    rw [firstF] at h
    by_cases h0 : firstF g n = 0
    · rw [if_neg (by omega)] at h
      by_cases e : j = n
      · rw [e]; exact h
      · exact firstF_all h0 j (by omega)
    · rw [if_pos h0] at h
      exact absurd h h0
section
variable {w : World} {base g n c : Nat} {t : TypeId} {xs : List (Int × Int)}
end
theorem out_no {n lo hi : Int} (h : lo ≤ n ∧ n ≤ hi) (w : World) :
    Calls Tryd.prog 24 #[.int .i64 n, .int .i64 lo, .int .i64 hi] w fun e w' => e = .returned (.bool false) ∧ w = w' := by
  obtain ⟨h1, h2⟩ := h
  go_enter Tryd.func24, Tryd.ntmps24
  go_wp2
  go_ret
  exact ⟨ret_bool (by first | rfl | (simp; omega)), rfl⟩
theorem out_yes {n lo hi : Int} (h : n < lo ∨ hi < n) (w : World) :
    Calls Tryd.prog 24 #[.int .i64 n, .int .i64 lo, .int .i64 hi] w fun e w' => e = .returned (.bool true) ∧ w = w' := by
  by_cases h1 : n < lo
  · clear h
    go_enter Tryd.func24, Tryd.ntmps24
    go_wp2
    go_ret
    exact ⟨ret_bool (by first | rfl | (simp; omega)), rfl⟩
  · have h2 : hi < n := by omega
    clear h
    go_enter Tryd.func24, Tryd.ntmps24
    go_wp2
    go_ret
    exact ⟨ret_bool (by first | rfl | (simp; omega)), rfl⟩
theorem At.num {w : World} {b off n c : Nat} {l : List Int} (h : At w 1 e64 (some ⟨b, off, none⟩) n c l) {k : Nat} (hk : k < n) : w.cell? ⟨b, off + k, none⟩ = some (.int .i64 (l.getD k 0)) := by
  have hl := h.len
  obtain ⟨b', off', e, hc⟩ := h.cells k _ (List.getElem?_eq_getElem (by omega))
  injection e with e
  injection e with e1 e2
  subst e1 e2
  have := hc 0 _ rfl
  rw [show l.getD k 0 = l[k]'(by omega) by simp [List.getD, show k < l.length by omega]]
  simpa using this
end Go.Proofs.YtfelgolfebhmkaaDoor
