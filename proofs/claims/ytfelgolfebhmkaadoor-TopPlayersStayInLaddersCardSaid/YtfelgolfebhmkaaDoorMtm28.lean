/- Walk: With of the program. Conditions as stated. -/
import Derived.Test.YtfelgolfebhmkaaDoorMtm22
import Derived.Test.YtfelgolfebhmkaaDoorMtm23
import Derived.Test.YtfelgolfebhmkaaDoorMtm26
import Derived.Test.YtfelgolfebhmkaaDoorMtm27
namespace Go.Proofs.YtfelgolfebhmkaaDoor
open Go.RowKit
@[reducible] def gvF (C : List Int) : Nat → Int → Int → List (Int × Int) → Int → Int := fun n _ _ _ _ => C.getD n 0
@[reducible] def trF (T : List (Int × Int)) (d : Int) : Int → Int → Int := fun t z => endsP T (t + d) z
section
variable {lA : Option Addr} {ln lc : Nat} {sA : Option Addr} {sn sc : Nat} {qA : Option Addr} {qn qc : Nat} {L : List Int} {S : List (List Int)} {Q : List Int} {T : List (Int × Int)} {C : List Int} {d0 s0 r0 f0 i0 k0 l0 t0 lo0 hi0 a0 x0 y0 z0 : Int} {w : World}
theorem getD_over {α : Type} (l : List α) (d : α) (i : Nat) (h : l.length ≤ i) : l.getD i d = d := by simp [List.getD, List.getElem?_eq_none h]
theorem size_any (ok : FilmOk L S Q) (i j : Nat) : 0 ≤ (S.getD i []).getD j 0 ∧ (S.getD i []).getD j 0 ≤ 1000000000 := by
  by_cases hi : i < S.length
  · by_cases hj : j < L.length
    · have := ok.sr i hi j hj; omega
    · have hl := ok.sl i hi
      rw [show (S.getD i []).getD j 0 = 0 by rw [getD_over _ _ _ (by omega)]]; omega
  · rw [show S.getD i [] = [] from getD_over _ _ _ (by omega)]; simp
def withF (L : List Int) (S : List (List Int)) (Q : List Int) (T : List (Int × Int)) (C : List Int) (d0 s0 r0 f0 i0 k0 l0 t0 lo0 hi0 a0 x0 y0 z0 : Int) : Int := if runF L S Q T d0 s0 r0 f0 i0 k0 l0 t0 lo0 hi0 a0 x0 y0 z0 ≠ 0 then runF L S Q T d0 s0 r0 f0 i0 k0 l0 t0 lo0 hi0 a0 x0 y0 z0 else chsF L.length S.length C
@[reducible] def zS : Value := .agg #[.slice none 0 0, .slice none 0 0, .slice none 0 0, .int .i64 0, .slice none 0 0, .int .i64 0]
def WithGives (w : World) (F : Int) (n : Nat) (f : FoT) (e : Ending) (w' : World) : Prop :=
  Ext w w' ∧ (F ≠ 0 → e = .returned (.tuple #[zS, .int .i64 F])) ∧ (F = 0 → ∃ v, e = .returned (.tuple #[v, .int .i64 0]) ∧ SesAt w' w.heap.size v f.ch f.asd f.arr f.w.beg f.w.stalls (f.w.at_ + f.w.buf) ∧ (f.ch.length = n ∧ f.asd.length = n ∧ f.arr.length = n ∧ f.w.stalls.length ≤ n))
theorem plrF_zero {d s r f i k l t lo hi a x y z : Int} (h : plrF d s r f i k l t lo hi a x y z = 0) : (0 ≤ d ∧ d ≤ 100000) ∧ (1 ≤ f ∧ f ≤ 1000000000) := by
  unfold plrF at h
  split at h
  · omega
  · omega
theorem runF_zero (h : runF L S Q T d0 s0 r0 f0 i0 k0 l0 t0 lo0 hi0 a0 x0 y0 z0 = 0) : filmF L S Q = 0 ∧ trcF T = 0 ∧ (0 ≤ d0 ∧ d0 ≤ 100000) ∧ (1 ≤ f0 ∧ f0 ≤ 1000000000) := by
  unfold runF at h
  by_cases h1 : firstNZ [filmF L S Q, trcF T] = 0
  · rw [if_neg (by omega)] at h
    have h2 : filmF L S Q = 0 := by
      apply Classical.byContradiction; intro hc
      unfold firstNZ at h1; rw [if_pos hc] at h1; exact hc h1
    have h3 : trcF T = 0 := by
      apply Classical.byContradiction; intro hc
      unfold firstNZ at h1; rw [if_neg (by omega)] at h1
      unfold firstNZ at h1; rw [if_pos hc] at h1; exact hc h1
    have h4 : fstF S.length d0 s0 r0 f0 i0 k0 l0 t0 lo0 hi0 a0 x0 y0 z0 = 0 := by
      apply Classical.byContradiction; intro hc
      unfold playF at h; rw [if_pos hc] at h; exact hc h
    exact ⟨h2, h3, plrF_zero (fstF_zero h4).1⟩
  · rw [if_pos h1] at h; exact absurd h h1
end
end Go.Proofs.YtfelgolfebhmkaaDoor
