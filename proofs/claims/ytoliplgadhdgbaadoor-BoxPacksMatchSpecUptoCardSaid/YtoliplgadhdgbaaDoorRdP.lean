/- Reading numbers out of bytes, in plain words. Plain. -/
import Derived.Test.YtoliplgadhdgbaaDoorBoxP
namespace Go.Proofs.YtoliplgadhdgbaaDoor
/-- Where one reads, and whether something was wrong there. -/
structure Rd where
  pos : Nat
  bad : Bool
/-- A number of so many bytes. -/
def rdN (b : List UInt8) (k : Nat) (s : Rd) : Nat × Rd := if s.bad = true ∨ b.length - s.pos < k then (0, ⟨s.pos, true⟩) else (numB (cutB b s.pos (s.pos + k)), ⟨s.pos + k, false⟩)
/-- A byte that is at most so great. -/
def rdF (b : List UInt8) (most : Nat) (s : Rd) : Nat × Rd := if (rdN b 1 s).2.bad = false ∧ most < (rdN b 1 s).1 then ((rdN b 1 s).1, ⟨s.pos, true⟩) else rdN b 1 s
/-- Nothing may be left. -/
def rdE (b : List UInt8) (s : Rd) : Rd := if s.bad = false ∧ s.pos < b.length then ⟨s.pos, true⟩ else s
theorem rdN_bad {b : List UInt8} {k : Nat} {s : Rd} (h : s.bad = true ∨ b.length - s.pos < k) : rdN b k s = (0, ⟨s.pos, true⟩) := by unfold rdN; rw [if_pos h]
theorem rdN_ok {b : List UInt8} {k : Nat} {s : Rd} (h : s.bad = false) (h2 : k ≤ b.length - s.pos) : rdN b k s = (numB (cutB b s.pos (s.pos + k)), ⟨s.pos + k, false⟩) := by
  unfold rdN; rw [if_neg (by rw [h]; simp; omega)]
theorem rdN_pos {b : List UInt8} {k : Nat} {s : Rd} (h : s.pos ≤ b.length) : (rdN b k s).2.pos ≤ b.length := by
  unfold rdN
  split
  · exact h
  · rename_i hc
    have : ¬ b.length - s.pos < k := fun h1 => hc (.inr h1)
    show s.pos + k ≤ b.length
    omega
theorem cutB_len {b : List UInt8} {i k : Nat} (h : i + k ≤ b.length) : (cutB b i (i + k)).length = k := by
  unfold cutB; rw [List.length_take, List.length_drop]; omega
theorem rdN_lt {b : List UInt8} {k : Nat} (s : Rd) (hk : 0 < k) : (rdN b k s).1 < 256 ^ k := by
  unfold rdN
  split
  · exact Nat.pow_pos (by omega)
  · rename_i hc
    have h1 : ¬ b.length - s.pos < k := fun h1 => hc (.inr h1)
    exact numB_lt k _ (cutB_len (by omega))
theorem rdF_lt {b : List UInt8} {most : Nat} (s : Rd) : (rdF b most s).1 < 256 := by
  have := rdN_lt (b := b) (k := 1) s (by omega)
  unfold rdF
  split
  · simpa using this
  · simpa using this
theorem rdF_pos {b : List UInt8} {most : Nat} {s : Rd} (h : s.pos ≤ b.length) : (rdF b most s).2.pos ≤ b.length := by
  unfold rdF
  split
  · exact h
  · exact rdN_pos h
theorem rdF_le {b : List UInt8} {most : Nat} {s : Rd} (h : (rdF b most s).2.bad = false) : (rdF b most s).1 ≤ most := by
  unfold rdF at h ⊢
  split at h
  · cases h
  · rename_i hc
    rw [if_neg hc]
    exact Nat.le_of_not_lt fun h1 => hc ⟨h, h1⟩
theorem rdN_was {b : List UInt8} {k : Nat} {s : Rd} (h : (rdN b k s).2.bad = false) : s.bad = false := by
  unfold rdN at h
  split at h
  · cases h
  · rename_i hc
    cases hb : s.bad with
    | false => rfl
    | true => exact absurd (.inl hb) hc
theorem rdN_stays {b : List UInt8} {k : Nat} {s : Rd} (h : s.bad = true) : rdN b k s = (0, s) := by
  rw [rdN_bad (.inl h)]; cases s; simp at h; subst h; rfl
theorem rdF_stays {b : List UInt8} {most : Nat} {s : Rd} (h : s.bad = true) : rdF b most s = (0, s) := by
  unfold rdF; rw [rdN_stays h, if_neg (by rw [h]; simp)]
theorem rdF_was {b : List UInt8} {most : Nat} {s : Rd} (h : (rdF b most s).2.bad = false) : s.bad = false := by
  cases hb : s.bad with
  | false => rfl
  | true => rw [rdF_stays hb, hb] at h; cases h
end Go.Proofs.YtoliplgadhdgbaaDoor
