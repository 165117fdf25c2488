/- Walk: With of the document. Conditions as stated. -/
import Derived.Test.YtajadgpkmommmaaFilmB
import Derived.Test.YtajadgpkmommmaaFilmD
import Derived.Test.YtajadgpkmommmaaRunB
import Derived.Test.YtajadgpkmommmaaRunC
import Derived.Test.YtajadgpkmommmaaFilmG
import Derived.Test.YtajadgpkmommmaaNetA
import Derived.Test.YtajadgpkmommmaaCrsDZ
import Derived.Test.YtajadgpkmommmaaNetC
namespace Go.Proofs.Ytajadgpkmommmaa
open Go.RowKit
/-- The fields alone that the kind uses. -/
def usdL (k l t lo hi a x y z : Int) : Int × Int × Int × Int × Int × Int × Int × Int :=
  if k = 2 then (l, t, 0, 0, 0, 0, 0, 0) else if k = 3 then (0, 0, lo, hi, 0, 0, 0, 0) else if k = 4 then (l, t, 0, 0, a, x, y, z) else (0, 0, 0, 0, 0, 0, 0, 0)
@[reducible] def plU (d s r f i k : Int) (u : Int × Int × Int × Int × Int × Int × Int × Int) : Value := plV d s r f i k u.1 u.2.1 u.2.2.1 u.2.2.2.1 u.2.2.2.2.1 u.2.2.2.2.2.1 u.2.2.2.2.2.2.1 u.2.2.2.2.2.2.2
/-- Whether a field that is not used is not zero, read off what is used. -/
theorem usd_unu (k l t lo hi a x y z : Int) : (usdL k l t lo hi a x y z = (l, t, lo, hi, a, x, y, z)) ↔ unuB k l t lo hi a x y z = false := by
  unfold usdL unuB
  by_cases h2 : k = 2
  · rw [if_pos h2, if_pos h2, decide_eq_false_iff_not]; repeat rw [Prod.mk.injEq]
    omega
  by_cases h3 : k = 3
  · rw [if_neg h2, if_neg h2, if_pos h3, if_pos h3, decide_eq_false_iff_not]; repeat rw [Prod.mk.injEq]
    omega
  by_cases h4 : k = 4
  · rw [if_neg h2, if_neg h2, if_neg h3, if_neg h3, if_pos h4, if_pos h4, decide_eq_false_iff_not]; repeat rw [Prod.mk.injEq]
    omega
  · rw [if_neg h2, if_neg h2, if_neg h3, if_neg h3, if_neg h4, if_neg h4, decide_eq_false_iff_not]; repeat rw [Prod.mk.injEq]
    omega
end Go.Proofs.Ytajadgpkmommmaa
namespace Go.Proofs.Ytajadgpkmommmaa
open Go.RowKit
end Go.Proofs.Ytajadgpkmommmaa
namespace Go.Proofs.Ytajadgpkmommmaa
open Go.RowKit
end Go.Proofs.Ytajadgpkmommmaa
namespace Go.Proofs.Ytajadgpkmommmaa
open Go.RowKit
end Go.Proofs.Ytajadgpkmommmaa
namespace Go.Proofs.Ytajadgpkmommmaa
open Go.RowKit
end Go.Proofs.Ytajadgpkmommmaa
namespace Go.Proofs.Ytajadgpkmommmaa
open Go.RowKit
end Go.Proofs.Ytajadgpkmommmaa
namespace Go.Proofs.Ytajadgpkmommmaa
open Go.RowKit

/-- A power, but at most 4097: m so far, k steps to go. -/
def powR (base : Int) : Int → Nat → Int
  | m, 0 => m
  | m, k + 1 => powR base (min (m * base) 4097) k
theorem powR_succ (base m : Int) (k : Nat) : powR base m (k + 1) = powR base (min (m * base) 4097) k := rfl
theorem powR_big {base : Int} (hb : 1 ≤ base) : ∀ k, powR base 4097 k = 4097
  | 0 => rfl
  | k + 1 => by
    rw [powR_succ, show min (4097 * base) 4097 = 4097 by omega]
    exact powR_big hb k
theorem pow_many {base : Int} (hb : 0 ≤ base) : ∀ (k : Nat) (m : Int), 0 ≤ m → m ≤ 4096 → decide (4096 < powR base m k) = manyN base m k
  | 0, m, h0, h1 => by
    have : ¬ 4096 < m := by omega
    simp [powR, manyN, this]
  | k + 1, m, h0, h1 => by
    have hm := Int.mul_nonneg h0 hb
    rw [powR_succ, manyN_succ]
    by_cases h : 4096 < m * base
    · have hb1 : 1 ≤ base := by
        by_cases hz : base = 0
        · subst hz; omega
        · omega
      rw [if_pos h, show min (m * base) 4097 = 4097 by omega, powR_big hb1]
      simp
    · rw [if_neg h, show min (m * base) 4097 = m * base by omega]
      exact pow_many hb k _ hm (by omega)
section
variable {lA : Option Addr} {ln lc : Nat} {sA : Option Addr} {sn sc : Nat} {qA : Option Addr} {qn qc : Nat} {w : World} {L : List Int} {S : List (List Int)} {Q : List Int}
/-- Does a player fit? -/
def fitF (n : Int) (i k a : Int) : Int := if n ≤ i then 1 else if k = 4 ∧ manyN n 1 a.toNat = true then 2 else 0
end
end Go.Proofs.Ytajadgpkmommmaa
namespace Go.Proofs.Ytajadgpkmommmaa
open Go.RowKit
theorem ends_same2 {l : List (Int × Int)} (hz : trcF l = 0) {f b : Int} (hf : 0 ≤ f ∧ f ≤ 2000000000000) (hb : 1 ≤ b ∧ b ≤ 1000000000) : endsP l f b = endsR l f b := by
  obtain ⟨h0, _, hall, _⟩ := trcF_zero hz
  have hok := okT_all hz 0 (by omega)
  have hx := (trEl_zero (hall 0 h0)).2.2.1 rfl
  rw [List.drop_zero] at hok
  match l, h0 with
  | x :: r, _ =>
    have e : max f x.1 = f := by simp at hx; omega
    have := endsEq r x f b hok (by omega) hb.2 hf.2
    rw [e] at this
    exact this
section
variable {lA : Option Addr} {ln lc : Nat} {sA : Option Addr} {sn sc : Nat} {qA : Option Addr} {qn qc : Nat} {L : List Int} {S : List (List Int)} {Q : List Int} {T : List (Int × Int)} {C : List Int} {d0 s0 r0 f0 i0 k0 l0 t0 lo0 hi0 a0 x0 y0 z0 : Int} {w : World}
end
end Go.Proofs.Ytajadgpkmommmaa
