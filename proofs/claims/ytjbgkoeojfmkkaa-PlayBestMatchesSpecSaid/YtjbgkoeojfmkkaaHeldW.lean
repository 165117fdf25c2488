/- A drawn region with three pairs of operations (a value is made, then it is taken), the takings in their order: one goal an operation, not one an order. Conditions: as stated. -/
import Derived.Test.YtjbgkoeojfmkkaaHeldY
namespace Go.Proofs.Ytjbgkoeojfmkkaa
open Go.RowKit
section
variable {P : Program} {ops : Array Oper} {Q : Exit → Act → World → Prop} {md : Region.Mode} {S : World → Prop} {z : Nat}
/-- The operations that may come up: of each pair 0 (nothing yet), 1 (made), 2 (taken). -/
def threeR (b1 a1 b2 a2 b3 a3 s1 s2 s3 : Nat) : List Nat :=
  (if s1 = 0 then [b1] else if s1 = 1 then [a1] else []) ++ (if s2 = 0 then [b2] else if s2 = 1 ∧ s1 = 2 then [a2] else []) ++ (if s3 = 0 then [b3] else if s3 = 1 ∧ s1 = 2 ∧ s2 = 2 then [a3] else [])
/-- What has come up, then. -/
def threeL (L : Array Bool) (b1 a1 b2 a2 b3 a3 s1 s2 s3 : Nat) : Array Bool :=
  let L := if 1 ≤ s1 then L.setIfInBounds b1 true else L
  let L := if 2 ≤ s1 then L.setIfInBounds a1 true else L
  let L := if 1 ≤ s2 then L.setIfInBounds b2 true else L
  let L := if 2 ≤ s2 then L.setIfInBounds a2 true else L
  let L := if 1 ≤ s3 then L.setIfInBounds b3 true else L
  if 2 ≤ s3 then L.setIfInBounds a3 true else L
/-- One operation of those that may come up. -/
theorem AllZ.ofAll {n : Nat} {L : Array Bool} {a : Act} {w : World} : ∀ {r : List Nat}, (∀ i ∈ r, wpOp P ops Q i (fun a' w' => ((L.setIfInBounds i true).getD z true = false → S w') ∧ AnyZ P md ops Q S z n (L.setIfInBounds i true) a' w') a w) → AllZ P md ops Q S z n L a w r
  | [], _ => True.intro
  | i :: _, h => ⟨h i (List.mem_cons_self ..), AllZ.ofAll fun j hj => h j (List.mem_cons_of_mem _ hj)⟩
theorem AnyZ.three {b1 a1 b2 a2 b3 a3 n : Nat} {L : Array Bool} (Inv : Nat → Nat → Nat → Act → World → Prop)
    (hready : ∀ s1 s2 s3, s1 ≤ 2 → s2 ≤ 2 → s3 ≤ 2 → (s2 = 2 → s1 = 2) → (s3 = 2 → s2 = 2) → ¬ (s1 = 2 ∧ s2 = 2 ∧ s3 = 2) → Region.ready md ops (threeL L b1 a1 b2 a2 b3 a3 s1 s2 s3) = threeR b1 a1 b2 a2 b3 a3 s1 s2 s3)
    (hset : ∀ i s1 s2 s3, s1 ≤ 2 → s2 ≤ 2 → s3 ≤ 2 → i ∈ threeR b1 a1 b2 a2 b3 a3 s1 s2 s3 → (threeL L b1 a1 b2 a2 b3 a3 s1 s2 s3).setIfInBounds i true =
      (if i = b1 ∨ i = a1 then threeL L b1 a1 b2 a2 b3 a3 (s1 + 1) s2 s3 else if i = b2 ∨ i = a2 then threeL L b1 a1 b2 a2 b3 a3 s1 (s2 + 1) s3 else threeL L b1 a1 b2 a2 b3 a3 s1 s2 (s3 + 1)))
    (hop : ∀ i s1 s2 s3 a w, s1 ≤ 2 → s2 ≤ 2 → s3 ≤ 2 → (s2 = 2 → s1 = 2) → (s3 = 2 → s2 = 2) → i ∈ threeR b1 a1 b2 a2 b3 a3 s1 s2 s3 → Inv s1 s2 s3 a w →
      wpOp P ops Q i (fun a' w' => S w' ∧ (if i = b1 ∨ i = a1 then Inv (s1 + 1) s2 s3 a' w' else if i = b2 ∨ i = a2 then Inv s1 (s2 + 1) s3 a' w' else Inv s1 s2 (s3 + 1) a' w')) a w)
    (hin : ∀ i s1 s2 s3, i ∈ threeR b1 a1 b2 a2 b3 a3 s1 s2 s3 → (i = b1 ∧ s1 = 0 ∨ i = a1 ∧ s1 = 1) ∧ (i = b1 ∨ i = a1) ∨ ¬ (i = b1 ∨ i = a1) ∧ (i = b2 ∨ i = a2) ∧ (s2 = 0 ∨ s2 = 1 ∧ s1 = 2) ∨ ¬ (i = b1 ∨ i = a1) ∧ ¬ (i = b2 ∨ i = a2) ∧ (s3 = 0 ∨ s3 = 1 ∧ s2 = 2))
    (hend : ∀ a w, Inv 2 2 2 a w → AnyZ P md ops Q S z n (threeL L b1 a1 b2 a2 b3 a3 2 2 2) a w) :
    ∀ (m s1 s2 s3 : Nat) (a : Act) (w : World), s1 ≤ 2 → s2 ≤ 2 → s3 ≤ 2 → (s2 = 2 → s1 = 2) → (s3 = 2 → s2 = 2) → m + s1 + s2 + s3 = 6 → Inv s1 s2 s3 a w → AnyZ P md ops Q S z (n + m) (threeL L b1 a1 b2 a2 b3 a3 s1 s2 s3) a w
  | 0, s1, s2, s3, a, w, h1, h2, h3, _, _, hm, hi => by
    obtain rfl : s1 = 2 := by omega
    obtain rfl : s2 = 2 := by omega
    obtain rfl : s3 = 2 := by omega
    exact hend a w hi
  | m + 1, s1, s2, s3, a, w, h1, h2, h3, h4, h5, hm, hi => by
    have hr := hready s1 s2 s3 h1 h2 h3 h4 h5 (by omega)
    refine ⟨fun h0 => ?_, fun i hI => ?_⟩
    · exfalso
      rw [hr] at h0
      unfold threeR at h0
      have e1 : s1 = 2 := by
        apply Classical.byContradiction; intro hc
        by_cases c0 : s1 = 0
        · simp [c0] at h0
        · simp [show s1 = 1 by omega] at h0
      have e2 : s2 = 2 := by
        apply Classical.byContradiction; intro hc
        by_cases c0 : s2 = 0
        · simp [c0, e1] at h0
        · simp [show s2 = 1 by omega, e1] at h0
      have e3 : s3 = 2 := by
        apply Classical.byContradiction; intro hc
        by_cases c0 : s3 = 0
        · simp [c0, e1, e2] at h0
        · simp [show s3 = 1 by omega, e1, e2] at h0
      omega
    · rw [hr] at hI
      refine wpOp_mono (fun a' w' hp => ⟨fun _ => hp.1, ?_⟩) (hop i s1 s2 s3 a w h1 h2 h3 h4 h5 hI hi)
      have hq := hp.2
      rw [hset i s1 s2 s3 h1 h2 h3 hI]
      rcases hin i s1 s2 s3 hI with ⟨c1, c2⟩ | ⟨c1, c2, c3⟩ | ⟨c1, c2, c3⟩
      · rw [if_pos c2] at hq ⊢
        exact AnyZ.three Inv hready hset hop hin hend m (s1 + 1) s2 s3 a' w' (by omega) h2 h3 (by omega) h5 (by omega) hq
      · rw [if_neg c1, if_pos c2] at hq ⊢
        exact AnyZ.three Inv hready hset hop hin hend m s1 (s2 + 1) s3 a' w' h1 (by omega) h3 (by omega) (by omega) (by omega) hq
      · rw [if_neg c1, if_neg c2] at hq ⊢
        exact AnyZ.three Inv hready hset hop hin hend m s1 s2 (s3 + 1) a' w' h1 h2 (by omega) h4 (by omega) (by omega) hq
theorem AnyZ.three0 {b1 a1 b2 a2 b3 a3 n : Nat} {L : Array Bool} (Inv : Nat → Nat → Nat → Act → World → Prop)
    (hready : ∀ s1 s2 s3, s1 ≤ 2 → s2 ≤ 2 → s3 ≤ 2 → (s2 = 2 → s1 = 2) → (s3 = 2 → s2 = 2) → ¬ (s1 = 2 ∧ s2 = 2 ∧ s3 = 2) → Region.ready md ops (threeL L b1 a1 b2 a2 b3 a3 s1 s2 s3) = threeR b1 a1 b2 a2 b3 a3 s1 s2 s3)
    (hset : ∀ i s1 s2 s3, s1 ≤ 2 → s2 ≤ 2 → s3 ≤ 2 → i ∈ threeR b1 a1 b2 a2 b3 a3 s1 s2 s3 → (threeL L b1 a1 b2 a2 b3 a3 s1 s2 s3).setIfInBounds i true =
      (if i = b1 ∨ i = a1 then threeL L b1 a1 b2 a2 b3 a3 (s1 + 1) s2 s3 else if i = b2 ∨ i = a2 then threeL L b1 a1 b2 a2 b3 a3 s1 (s2 + 1) s3 else threeL L b1 a1 b2 a2 b3 a3 s1 s2 (s3 + 1)))
    (hop : ∀ i s1 s2 s3 a w, s1 ≤ 2 → s2 ≤ 2 → s3 ≤ 2 → (s2 = 2 → s1 = 2) → (s3 = 2 → s2 = 2) → i ∈ threeR b1 a1 b2 a2 b3 a3 s1 s2 s3 → Inv s1 s2 s3 a w →
      wpOp P ops Q i (fun a' w' => S w' ∧ (if i = b1 ∨ i = a1 then Inv (s1 + 1) s2 s3 a' w' else if i = b2 ∨ i = a2 then Inv s1 (s2 + 1) s3 a' w' else Inv s1 s2 (s3 + 1) a' w')) a w)
    (hin : ∀ i s1 s2 s3, i ∈ threeR b1 a1 b2 a2 b3 a3 s1 s2 s3 → (i = b1 ∧ s1 = 0 ∨ i = a1 ∧ s1 = 1) ∧ (i = b1 ∨ i = a1) ∨ ¬ (i = b1 ∨ i = a1) ∧ (i = b2 ∨ i = a2) ∧ (s2 = 0 ∨ s2 = 1 ∧ s1 = 2) ∨ ¬ (i = b1 ∨ i = a1) ∧ ¬ (i = b2 ∨ i = a2) ∧ (s3 = 0 ∨ s3 = 1 ∧ s2 = 2))
    (hend : ∀ a w, Inv 2 2 2 a w → AnyZ P md ops Q S z n (threeL L b1 a1 b2 a2 b3 a3 2 2 2) a w) {a : Act} {w : World} (hi : Inv 0 0 0 a w) : AnyZ P md ops Q S z (n + 6) L a w :=
  AnyZ.three Inv hready hset hop hin hend 6 0 0 0 a w (by omega) (by omega) (by omega) (by omega) (by omega) (by omega) hi
theorem threeL_zero (L : Array Bool) (b1 a1 b2 a2 b3 a3 : Nat) : threeL L b1 a1 b2 a2 b3 a3 0 0 0 = L := rfl
theorem put_same (a : Act) (i : Nat) (u : Value) : a.put (some i) (a.tmps.getD i u) = a := by
  obtain ⟨t, p⟩ := a
  simp only [Act.put]
  congr 1
  apply Array.ext
  · simp
  · intro j h1 h2
    rw [Array.getElem_setIfInBounds (by simpa using h1)]
    split
    · rename_i e; subst e; simp [Array.getD, h2]
    · rfl
theorem gen_act {n : Nat} {L : Array Bool} {a : Act} {w : World} (h : ∀ b, b = a → AnyZ P md ops Q S z n L b w) : AnyZ P md ops Q S z n L a w := h a rfl
end
end Go.Proofs.Ytjbgkoeojfmkkaa
