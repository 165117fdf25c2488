/- What joining fragments gives, in plain words. Plain. -/
import Derived.Test.YtgnmnhlhiiehfaaFbyP
import Derived.Test.YtgnmnhlhiiehfaaFrgB
namespace Go.Proofs.Ytgnmnhlhiiehfaa
/-- The fault of a fragment behind others. -/
def jEl (L : List (Int × List Smp)) (i : Nat) : Int := if fragF (L.getD i (0, [])).1 (L.getD i (0, [])).2 ≠ 0 then fragF (L.getD i (0, [])).1 (L.getD i (0, [])).2 else if 0 < i ∧ (L.getD i (0, [])).1 ≠ (L.getD (i - 1) (0, [])).1 + 1 then 8 else 0
def joinF (L : List (Int × List Smp)) : Int := if 5000 < L.length then 2 else if firstF (jEl L) L.length ≠ 0 then firstF (jEl L) L.length else smpF (flS L)
def joinL (L : List (Int × List Smp)) : List Smp := if joinF L = 0 then flS L else []
theorem jEl_zero {L : List (Int × List Smp)} {i : Nat} (h : jEl L i = 0) : fragF (L.getD i (0, [])).1 (L.getD i (0, [])).2 = 0 ∧ (0 < i → (L.getD i (0, [])).1 = (L.getD (i - 1) (0, [])).1 + 1) := by
  unfold jEl at h
  by_cases h1 : fragF (L.getD i (0, [])).1 (L.getD i (0, [])).2 ≠ 0
  · rw [if_pos h1] at h; exact absurd h h1
  rw [if_neg h1] at h
  refine ⟨by omega, fun hi => Classical.byContradiction fun hc => ?_⟩
  rw [if_pos ⟨hi, hc⟩] at h; omega
theorem fragF_zero {n : Int} {l : List Smp} (h : fragF n l = 0) : (0 ≤ n ∧ n ≤ 4294967295) ∧ smpF l = 0 := by
  unfold fragF at h
  split at h
  · omega
  · exact ⟨by omega, h⟩
theorem joinF_el {L : List (Int × List Smp)} (h5 : L.length ≤ 5000) {i : Nat} (hi : i < L.length) (ha : ∀ j, j < i → jEl L j = 0) (hb : jEl L i ≠ 0) : joinF L = jEl L i := by
  have := firstF_at ha hb (n := L.length) hi
  unfold joinF; rw [if_neg (by omega), if_pos (by omega), this]
theorem joinF_all {L : List (Int × List Smp)} (h5 : L.length ≤ 5000) (ha : ∀ j, j < L.length → jEl L j = 0) : joinF L = smpF (flS L) := by
  have := firstF_zero (g := jEl L) (n := L.length) ha
  unfold joinF; rw [if_neg (by omega), if_neg (by omega)]
theorem smpF_long {l : List Smp} (h : 5000 < l.length) : smpF l = 2 := by unfold smpF; rw [if_pos h]
/-- What the program has joined, that stops where there is too much. -/
def capL (L : List (Int × List Smp)) : Nat → List Smp
  | 0 => []
  | k + 1 => if (capL L k).length ≤ 5000 then capL L k ++ (L.getD k (0, [])).2 else capL L k
theorem flS_take_le {L : List (Int × List Smp)} (hs : ∀ i, i < L.length → jEl L i = 0) : ∀ k, k ≤ L.length → (flS (L.take k)).length ≤ k * 5000
  | 0, _ => by simp [flS]
  | k + 1, h => by
    have ih := flS_take_le hs k (by omega)
    have h1 := (smpF_zero (fragF_zero (jEl_zero (hs k (by omega))).1).2).1
    rw [flS_succ (by omega), List.length_append]
    omega
theorem flS_mono {L : List (Int × List Smp)} {k : Nat} (hk : k < L.length) : (flS (L.take k)).length ≤ (flS (L.take (k + 1))).length := by
  rw [flS_succ hk, List.length_append]; omega
theorem capL_or {L : List (Int × List Smp)} : ∀ k, k ≤ L.length → capL L k = flS (L.take k) ∨ (5000 < (capL L k).length ∧ 5000 < (flS (L.take k)).length)
  | 0, _ => .inl (by simp [capL, flS])
  | k + 1, h => by
    have hm := flS_mono (L := L) (k := k) (by omega)
    rcases capL_or (L := L) k (by omega) with ih | ⟨ih1, ih2⟩
    · by_cases hc : (capL L k).length ≤ 5000
      · left
        rw [capL, if_pos hc, ih, flS_succ (by omega)]
      · right
        rw [capL, if_neg hc]
        refine ⟨by omega, ?_⟩
        rw [ih] at hc; omega
    · right
      rw [capL, if_neg (by omega)]
      exact ⟨ih1, by omega⟩
theorem capL_le {L : List (Int × List Smp)} {k : Nat} (hs : ∀ i, i < k → jEl L i = 0) : ∀ j, j ≤ k → (capL L j).length ≤ 10000
  | 0, _ => by simp [capL]
  | j + 1, h => by
    have ih := capL_le hs j (by omega)
    have h1 := (smpF_zero (fragF_zero (jEl_zero (hs j (by omega))).1).2).1
    rw [capL]
    split
    · rw [List.length_append]; omega
    · exact ih
theorem capL_smpF {L : List (Int × List Smp)} : smpF (capL L L.length) = smpF (flS L) ∧ (smpF (flS L) = 0 → capL L L.length = flS L) := by
  have h := capL_or (L := L) L.length (Nat.le_refl _)
  rw [List.take_length] at h
  rcases h with h | ⟨h1, h2⟩
  · rw [h]; exact ⟨rfl, fun _ => rfl⟩
  · rw [smpF_long h1, smpF_long h2]; exact ⟨rfl, fun h => by omega⟩
end Go.Proofs.Ytgnmnhlhiiehfaa
