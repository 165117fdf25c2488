/- Reading lists of numbers out of bytes, in plain words. Plain. -/
import Derived.Test.YtoliplgadhdgbaaDoorRdP
import Derived.Test.YtoliplgadhdgbaaDoorTabP
namespace Go.Proofs.YtoliplgadhdgbaaDoor
open Go.RowKit
/-- How many numbers a list has, and where they begin. -/
def lsH (b : List UInt8) (each : Nat) (s : Rd) : Nat × Rd :=
  if (rdN b 4 s).2.bad = true then (0, (rdN b 4 s).2)
  else if b.length - (rdN b 4 s).2.pos < (rdN b 4 s).1 * each * 8 then (0, ⟨s.pos, true⟩)
  else ((rdN b 4 s).1 * each, (rdN b 4 s).2)
/-- So many numbers of eight bytes. -/
def nmL (b : List UInt8) (s : Rd) : Nat → List Int × Rd
  | 0 => ([], s)
  | k + 1 => ((nmL b s k).1 ++ [IntKind.i64.wrap ((rdN b 8 (nmL b s k).2).1 : Int)], (rdN b 8 (nmL b s k).2).2)
def lsF (b : List UInt8) (each : Nat) (s : Rd) : List Int × Rd := nmL b (lsH b each s).2 (lsH b each s).1
theorem nmL_len (b : List UInt8) (s : Rd) : ∀ k, (nmL b s k).1.length = k
  | 0 => rfl
  | k + 1 => by rw [nmL]; simp [nmL_len b s k]
theorem nmL_ok {b : List UInt8} {p : Nat} {m : Nat} (h : 8 * m ≤ b.length - p) : ∀ k, k ≤ m → (nmL b ⟨p, false⟩ k).2 = ⟨p + 8 * k, false⟩
  | 0, _ => rfl
  | k + 1, hk => by
    rw [nmL, nmL_ok h k (by omega)]
    show (rdN b 8 ⟨p + 8 * k, false⟩).2 = _
    rw [rdN_ok rfl (by show 8 ≤ b.length - (p + 8 * k); omega)]
    show (⟨p + 8 * k + 8, false⟩ : Rd) = _
    rw [show p + 8 * k + 8 = p + 8 * (k + 1) by omega]
theorem lsH_cases (b : List UInt8) (each : Nat) (s : Rd) :
    ((rdN b 4 s).2.bad = true ∧ lsH b each s = (0, (rdN b 4 s).2)) ∨
    ((rdN b 4 s).2.bad = false ∧ b.length - (rdN b 4 s).2.pos < (rdN b 4 s).1 * each * 8 ∧ lsH b each s = (0, ⟨s.pos, true⟩)) ∨
    ((rdN b 4 s).2.bad = false ∧ (rdN b 4 s).1 * each * 8 ≤ b.length - (rdN b 4 s).2.pos ∧ lsH b each s = ((rdN b 4 s).1 * each, (rdN b 4 s).2)) := by
  unfold lsH
  cases hb : (rdN b 4 s).2.bad with
  | true => left; exact ⟨rfl, by rw [if_pos rfl]⟩
  | false =>
    right
    by_cases hc : b.length - (rdN b 4 s).2.pos < (rdN b 4 s).1 * each * 8
    · left; exact ⟨rfl, hc, by rw [if_neg (by simp), if_pos hc]⟩
    · right; exact ⟨rfl, by omega, by rw [if_neg (by simp), if_neg hc]⟩
theorem lsH_few (b : List UInt8) (each : Nat) (s : Rd) : (lsH b each s).1 * 8 ≤ b.length := by
  rcases lsH_cases b each s with ⟨_, h⟩ | ⟨_, _, h⟩ | ⟨_, h2, h⟩ <;> rw [h] <;> simp <;> omega
theorem lsF_len (b : List UInt8) (each : Nat) (s : Rd) : (lsF b each s).1.length = (lsH b each s).1 := nmL_len _ _ _
theorem lsF_pos {b : List UInt8} {each : Nat} {s : Rd} (h : s.pos ≤ b.length) : (lsF b each s).2.pos ≤ b.length := by
  have hp : (rdN b 4 s).2.pos ≤ b.length := rdN_pos h
  unfold lsF
  rcases lsH_cases b each s with ⟨_, h1⟩ | ⟨_, _, h1⟩ | ⟨h0, h2, h1⟩
  · rw [h1]; exact hp
  · rw [h1]; exact h
  · rw [h1]
    have e : (rdN b 4 s).2 = ⟨(rdN b 4 s).2.pos, false⟩ := by rw [← h0]
    show (nmL b (rdN b 4 s).2 ((rdN b 4 s).1 * each)).2.pos ≤ _
    generalize (rdN b 4 s).2 = q at *
    rw [e, nmL_ok (m := (rdN b 4 s).1 * each) (by omega) _ (Nat.le_refl _)]
    show q.pos + 8 * ((rdN b 4 s).1 * each) ≤ _
    omega
theorem lsF_bad {b : List UInt8} {each : Nat} {s : Rd} (h : s.bad = true) : lsF b each s = ([], s) := by
  unfold lsF lsH
  rw [rdN_stays h, if_pos h]; rfl
theorem lsF_was {b : List UInt8} {each : Nat} {s : Rd} (h : (lsF b each s).2.bad = false) : s.bad = false := by
  cases hb : s.bad with
  | false => rfl
  | true => rw [lsF_bad hb, hb] at h; cases h
/-- Pairs of numbers that follow one another. -/
def prK (l : List Int) (k : Nat) : List (Int × Int) := (List.range k).map fun i => (l.getD (2 * i) 0, l.getD (2 * i + 1) 0)
def prL (l : List Int) : List (Int × Int) := prK l (l.length / 2)
theorem prK_len (l : List Int) (k : Nat) : (prK l k).length = k := by unfold prK; simp
theorem prK_succ (l : List Int) (k : Nat) : prK l (k + 1) = prK l k ++ [(l.getD (2 * k) 0, l.getD (2 * k + 1) 0)] := by unfold prK; rw [List.range_succ, List.map_append]; rfl
/-! ### The whole -/
def r0F (b : List UInt8) : Nat × Rd := rdN b 8 ⟨0, false⟩
def r1F (b : List UInt8) : List Int × Rd := lsF b 2 (r0F b).2
def r2F (b : List UInt8) : List Int × Rd := lsF b 2 (r1F b).2
def r3F (b : List UInt8) : List Int × Rd := lsF b 1 (r2F b).2
def r4F (b : List UInt8) : Nat × Rd := rdF b 1 (r3F b).2
/-- Keys are there. -/
def hasK (b : List UInt8) : Bool := decide ((r4F b).1 = 1) && !(r4F b).2.bad
def r5F (b : List UInt8) : List Int × Rd := if hasK b = true then lsF b 1 (r4F b).2 else ([], (r4F b).2)
def r6F (b : List UInt8) : List Int × Rd := lsF b 2 (r5F b).2
def r7F (b : List UInt8) : List Int × Rd := lsF b 1 (r6F b).2
def rtE (b : List UInt8) : Rd := rdE b (r7F b).2
/-- The table that is read. -/
def rtT (b : List UInt8) : Tab := ⟨IntKind.i64.wrap ((r0F b).1 : Int), prL (r1F b).1, prL (r2F b).1, (r3F b).1, (r5F b).1, !hasK b, prL (r6F b).1, (r7F b).1⟩
def noTab : Tab := ⟨0, [], [], [], [], true, [], []⟩
/-- The fault of readTable, and its place, and what it gives. -/
def rtF (b : List UInt8) : Int := if 1000000 < b.length then 2 else if (rtE b).bad = true then 10 else 0
def rtA (b : List UInt8) : Int := if 1000000 < b.length then 0 else if (rtE b).bad = true then ((rtE b).pos : Int) else 0
def rtV (b : List UInt8) : Tab := if rtF b = 0 then rtT b else noTab
/-- Those of ReadTable. -/
def rdTF (b : List UInt8) : Int := if rtF b ≠ 0 then rtF b else tabF (rtT b)
def rdTV (b : List UInt8) : Tab := if rdTF b = 0 then rtT b else noTab
theorem r_pos (b : List UInt8) : (r0F b).2.pos ≤ b.length ∧ (r1F b).2.pos ≤ b.length ∧ (r2F b).2.pos ≤ b.length ∧ (r3F b).2.pos ≤ b.length ∧ (r4F b).2.pos ≤ b.length ∧ (r5F b).2.pos ≤ b.length ∧ (r6F b).2.pos ≤ b.length ∧ (r7F b).2.pos ≤ b.length := by
  have h0 : (r0F b).2.pos ≤ b.length := rdN_pos (Nat.zero_le _)
  have h1 : (r1F b).2.pos ≤ b.length := lsF_pos h0
  have h2 : (r2F b).2.pos ≤ b.length := lsF_pos h1
  have h3 : (r3F b).2.pos ≤ b.length := lsF_pos h2
  have h4 : (r4F b).2.pos ≤ b.length := rdF_pos h3
  have h5 : (r5F b).2.pos ≤ b.length := by
    unfold r5F; split
    · exact lsF_pos h4
    · exact h4
  have h6 : (r6F b).2.pos ≤ b.length := lsF_pos h5
  exact ⟨h0, h1, h2, h3, h4, h5, h6, lsF_pos h6⟩
theorem r_few (b : List UInt8) : (r1F b).1.length * 8 ≤ b.length ∧ (r2F b).1.length * 8 ≤ b.length ∧ (r3F b).1.length * 8 ≤ b.length ∧ (r5F b).1.length * 8 ≤ b.length ∧ (r6F b).1.length * 8 ≤ b.length ∧ (r7F b).1.length * 8 ≤ b.length := by
  have key : ∀ each s, (lsF b each s).1.length * 8 ≤ b.length := fun each s => by rw [lsF_len]; exact lsH_few b each s
  refine ⟨key _ _, key _ _, key _ _, ?_, key _ _, key _ _⟩
  unfold r5F; split
  · exact key _ _
  · simp
end Go.Proofs.YtoliplgadhdgbaaDoor
