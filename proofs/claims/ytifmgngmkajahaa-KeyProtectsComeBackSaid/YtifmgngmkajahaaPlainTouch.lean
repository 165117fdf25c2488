/- Plain law: spans that are added one by one are the runs of the positions that they hold. Conditions as stated. -/
import Derived.Test.YtifmgngmkajahaaPairs
namespace Go.Proofs.Ytifmgngmkajahaa

/-- The last span gets another end. -/
def setTo (R : List (Int × Int)) (t : Int) : List (Int × Int) := R.set (R.length - 1) ((R.getD (R.length - 1) (0, 0)).1, t)
/-- A span is added, as the program does. -/
def addS (R : List (Int × Int)) (s : Int × Int) : List (Int × Int) :=
  if s.2 ≤ s.1 then R else if R ≠ [] ∧ (R.getD (R.length - 1) (0, 0)).2 = s.1 then setTo R s.2 else R ++ [s]
/-- A position is looked at, as the document does. -/
def stepR (b : Int → Bool) (R : List (Int × Int)) (i : Nat) : List (Int × Int) :=
  if b (i : Int) = false then R else if 0 < i ∧ b ((i : Int) - 1) = true then setTo R ((i : Int) + 1) else R ++ [((i : Int), (i : Int) + 1)]
def runsU (b : Int → Bool) : Nat → List (Int × Int)
  | 0 => []
  | n + 1 => stepR b (runsU b n) n
theorem last_app (R : List (Int × Int)) (s : Int × Int) : (R ++ [s]).getD ((R ++ [s]).length - 1) (0, 0) = s := by
  simp [List.getD]
theorem length_setTo (R : List (Int × Int)) (t : Int) : (setTo R t).length = R.length := by simp [setTo]
theorem last_setTo (R : List (Int × Int)) (t : Int) (h : R ≠ []) : (setTo R t).getD ((setTo R t).length - 1) (0, 0) = ((R.getD (R.length - 1) (0, 0)).1, t) := by
  have h0 : 0 < R.length := List.length_pos_iff.2 h
  rw [length_setTo]
  unfold setTo
  simp [List.getD, show R.length - 1 < R.length by omega]
theorem setTo_ne {R : List (Int × Int)} {t : Int} (h : R ≠ []) : setTo R t ≠ [] := by
  intro e
  have := length_setTo R t
  rw [e] at this
  exact h (List.eq_nil_of_length_eq_zero this.symm)
theorem setTo_def (R : List (Int × Int)) (t : Int) : setTo R t = R.set (R.length - 1) ((R.getD (R.length - 1) (0, 0)).1, t) := rfl
theorem setTo_setTo (R : List (Int × Int)) (t u : Int) : setTo (setTo R t) u = setTo R u := by
  cases hR : R with
  | nil => rfl
  | cons x r =>
    rw [← hR]
    have h : R ≠ [] := by rw [hR]; simp
    have h0 : 0 < R.length := List.length_pos_iff.2 h
    rw [setTo_def (setTo R t) u, last_setTo R t h, length_setTo, setTo_def R t, setTo_def R u, List.set_set]
theorem setTo_app (R : List (Int × Int)) (s : Int × Int) (t : Int) : setTo (R ++ [s]) t = R ++ [(s.1, t)] := by
  unfold setTo
  rw [last_app]
  simp
theorem runs_inv (b : Int → Bool) : ∀ n : Nat, (runsU b n ≠ [] → ((runsU b n).getD ((runsU b n).length - 1) (0, 0)).2 ≤ (n : Int)) ∧
    ((runsU b n ≠ [] ∧ ((runsU b n).getD ((runsU b n).length - 1) (0, 0)).2 = (n : Int)) ↔ (0 < n ∧ b ((n : Int) - 1) = true))
  | 0 => by simp [runsU]
  | n + 1 => by
    obtain ⟨h1, h2⟩ := runs_inv b n
    rw [runsU]
    unfold stepR
    by_cases hb : b (n : Int) = false
    · rw [if_pos hb]
      have e : b (((n + 1 : Nat) : Int) - 1) = false := by rw [show (((n + 1 : Nat) : Int) - 1) = (n : Int) by omega]; exact hb
      refine ⟨fun h => by have := h1 h; omega, fun h => ?_, fun h => ?_⟩
      · have := h1 h.1
        omega
      · rw [e] at h; simp at h
    · have hb' : b (n : Int) = true := by simpa using hb
      have e : b (((n + 1 : Nat) : Int) - 1) = true := by rw [show (((n + 1 : Nat) : Int) - 1) = (n : Int) by omega]; exact hb'
      rw [if_neg hb]
      by_cases hc : 0 < n ∧ b ((n : Int) - 1) = true
      · rw [if_pos hc]
        have hne := (h2.2 hc).1
        rw [last_setTo _ _ hne]
        exact ⟨fun _ => by simp, fun _ => ⟨by omega, e⟩, fun _ => ⟨setTo_ne hne, by simp⟩⟩
      · rw [if_neg hc, last_app]
        exact ⟨fun _ => by simp, fun _ => ⟨by omega, e⟩, fun _ => ⟨by simp, by simp⟩⟩
theorem runs_false (b : Int → Bool) (n : Nat) : ∀ d : Nat, (∀ i : Nat, n ≤ i → i < n + d → b (i : Int) = false) → runsU b (n + d) = runsU b n
  | 0, _ => rfl
  | d + 1, h => by
    rw [show n + (d + 1) = (n + d) + 1 by omega, runsU]
    unfold stepR
    rw [if_pos (h (n + d) (by omega) (by omega))]
    exact runs_false b n d (fun i h1 h2 => h i h1 (by omega))
theorem stepR_ext {b : Int → Bool} {R : List (Int × Int)} {i : Nat} (h : b (i : Int) = true) (h2 : 0 < i ∧ b ((i : Int) - 1) = true) : stepR b R i = setTo R ((i : Int) + 1) := by
  unfold stepR; rw [if_neg (show ¬ b (i : Int) = false by rw [h]; decide), if_pos h2]
theorem stepR_new {b : Int → Bool} {R : List (Int × Int)} {i : Nat} (h : b (i : Int) = true) (h2 : ¬ (0 < i ∧ b ((i : Int) - 1) = true)) : stepR b R i = R ++ [((i : Int), (i : Int) + 1)] := by
  unfold stepR; rw [if_neg (show ¬ b (i : Int) = false by rw [h]; decide), if_neg h2]
theorem addS_ext {R : List (Int × Int)} {x y : Int} (h : x < y) (h2 : R ≠ [] ∧ (R.getD (R.length - 1) (0, 0)).2 = x) : addS R (x, y) = setTo R y := by
  unfold addS; rw [if_neg (show ¬ (x, y).2 ≤ (x, y).1 by simp only; omega), if_pos h2]
theorem addS_new {R : List (Int × Int)} {x y : Int} (h : x < y) (h2 : ¬ (R ≠ [] ∧ (R.getD (R.length - 1) (0, 0)).2 = x)) : addS R (x, y) = R ++ [(x, y)] := by
  unfold addS; rw [if_neg (show ¬ (x, y).2 ≤ (x, y).1 by simp only; omega), if_neg h2]
theorem runs_true (b : Int → Bool) (n : Nat) : ∀ d : Nat, (∀ i : Nat, n ≤ i → i < n + d + 1 → b (i : Int) = true) → runsU b (n + d + 1) = addS (runsU b n) ((n : Int), ((n + d + 1 : Nat) : Int))
  | 0, h => by
    have hb := h n (by omega) (by omega)
    have hi := (runs_inv b n).2
    have e : (((n + 0 + 1 : Nat)) : Int) = (n : Int) + 1 := by omega
    rw [e, show n + 0 + 1 = n + 1 by omega, runsU]
    by_cases hc : 0 < n ∧ b ((n : Int) - 1) = true
    · rw [stepR_ext hb hc, addS_ext (by omega) (hi.2 hc)]
    · rw [stepR_new hb hc, addS_new (by omega) (fun h => hc (hi.1 h))]
  | d + 1, h => by
    have ih := runs_true b n d (fun i h1 h2 => h i h1 (by omega))
    have hb := h (n + d + 1) (by omega) (by omega)
    have hb2 := h (n + d) (by omega) (by omega)
    have e1 : (((n + d + 1 : Nat) : Int) - 1) = ((n + d : Nat) : Int) := by omega
    have e2 : ((n + (d + 1) + 1 : Nat) : Int) = ((n + d + 1 : Nat) : Int) + 1 := by omega
    rw [e2, show n + (d + 1) + 1 = (n + d + 1) + 1 by omega, runsU, stepR_ext hb ⟨by omega, by rw [e1]; exact hb2⟩, ih]
    by_cases hc : runsU b n ≠ [] ∧ ((runsU b n).getD ((runsU b n).length - 1) (0, 0)).2 = (n : Int)
    · rw [addS_ext (by omega) hc, addS_ext (by omega) hc, setTo_setTo]
    · rw [addS_new (by omega) hc, addS_new (by omega) hc, setTo_app]
/-- Spans in order, from a place on. -/
def chainS : Int → List (Int × Int) → Prop
  | _, [] => True
  | lo, s :: r => lo ≤ s.1 ∧ s.1 ≤ s.2 ∧ chainS s.2 r
theorem chainS_mono : ∀ (S : List (Int × Int)) {lo lo' : Int}, chainS lo S → lo' ≤ lo → chainS lo' S
  | [], _, _, _, _ => trivial
  | s :: r, _, _, ⟨h1, h2, h3⟩, h => ⟨by omega, h2, h3⟩
theorem chainS_ge : ∀ (S : List (Int × Int)) {lo : Int}, chainS lo S → ∀ s ∈ S, lo ≤ s.1 ∧ s.1 ≤ s.2
  | [], _, _, s, hs => by simp at hs
  | t :: r, lo, ⟨h1, h2, h3⟩, s, hs => by
    rcases List.mem_cons.1 hs with rfl | hs
    · exact ⟨h1, h2⟩
    · have := chainS_ge r h3 s hs
      omega
def endS : Int → List (Int × Int) → Int
  | lo, [] => lo
  | _, s :: r => endS s.2 r
theorem chainS_app : ∀ (A B : List (Int × Int)) {lo : Int}, chainS lo A → chainS (endS lo A) B → chainS lo (A ++ B)
  | [], _, _, _, h => h
  | _ :: r, B, _, ⟨h1, h2, h3⟩, h => ⟨h1, h2, chainS_app r B h3 h⟩
theorem endS_app : ∀ (A B : List (Int × Int)) (lo : Int), endS lo (A ++ B) = endS (endS lo A) B
  | [], _, _ => rfl
  | s :: r, B, _ => endS_app r B s.2
theorem fold_runs (b : Int → Bool) (size : Int) : ∀ (S : List (Int × Int)) (lo : Int), 0 ≤ lo → lo ≤ size → chainS lo S → (∀ s ∈ S, s.2 ≤ size) →
    (∀ i : Int, lo ≤ i → i < size → (b i = true ↔ ∃ s ∈ S, s.1 ≤ i ∧ i < s.2)) → S.foldl addS (runsU b lo.toNat) = runsU b size.toNat
  | [], lo, h0, hs, _, _, hb => by
    have := runs_false b lo.toNat (size.toNat - lo.toNat) (fun i h1 h2 => by
      cases hbi : b (i : Int) with
      | false => rfl
      | true =>
        obtain ⟨s, hs, _⟩ := (hb i (by omega) (by omega)).1 hbi
        simp at hs)
    rw [show lo.toNat + (size.toNat - lo.toNat) = size.toNat by omega] at this
    exact this.symm
  | s :: r, lo, h0, hs, ⟨c1, c2, c3⟩, hm, hb => by
    have hs2 := hm s (by simp)
    have hfalse := runs_false b lo.toNat (s.1.toNat - lo.toNat) (fun i h1 h2 => by
      cases hbi : b (i : Int) with
      | false => rfl
      | true =>
        obtain ⟨t, ht, h3, h4⟩ := (hb i (by omega) (by omega)).1 hbi
        rcases List.mem_cons.1 ht with rfl | ht
        · omega
        · have := chainS_ge r c3 t ht
          omega)
    rw [show lo.toNat + (s.1.toNat - lo.toNat) = s.1.toNat by omega] at hfalse
    rw [List.foldl_cons, ← hfalse]
    have hrest : ∀ i : Int, s.2 ≤ i → i < size → (b i = true ↔ ∃ t ∈ r, t.1 ≤ i ∧ i < t.2) := fun i h1 h2 => by
      rw [hb i (by omega) h2]
      constructor
      · rintro ⟨t, ht, h3, h4⟩
        rcases List.mem_cons.1 ht with rfl | ht
        · omega
        · exact ⟨t, ht, h3, h4⟩
      · rintro ⟨t, ht, h3, h4⟩
        exact ⟨t, List.mem_cons_of_mem _ ht, h3, h4⟩
    have ih := fold_runs b size r s.2 (by omega) hs2 c3 (fun t ht => hm t (List.mem_cons_of_mem _ ht)) hrest
    by_cases he : s.2 ≤ s.1
    · have e : addS (runsU b s.1.toNat) s = runsU b s.1.toNat := by unfold addS; rw [if_pos he]
      rw [e, show s.1.toNat = s.2.toNat by omega]
      exact ih
    · have htrue := runs_true b s.1.toNat (s.2.toNat - s.1.toNat - 1) (fun i h1 h2 => (hb i (by omega) (by omega)).2 ⟨s, by simp, by omega, by omega⟩)
      rw [show s.1.toNat + (s.2.toNat - s.1.toNat - 1) + 1 = s.2.toNat by omega] at htrue
      have e : addS (runsU b s.1.toNat) s = runsU b s.2.toNat := by
        rw [htrue]
        congr 1
        rw [show ((s.1.toNat : Int)) = s.1 by omega, show ((s.2.toNat : Int)) = s.2 by omega]
      rw [e]
      exact ih
end Go.Proofs.Ytifmgngmkajahaa
