/- Several texts in one: Walks: chunksOf (both). Conditions as stated; Walk: edits (reference). Conditions as stated; Walk: dataFault (program). Conditions as stated; How far chunks are laid, in plain words; cells of the memory in which they are laid. No condition. -/
import Derived.Test.YtlonhkjplijlcaaMrg08
import Derived.Test.YtlonhkjplijlcaaMrg07
import Derived.Lib.MinMax
import Derived.Test.YtlonhkjplijlcaaMrg13
namespace Go.Proofs.Ytlonhkjplijlcaa
open Go.RowKit
end Go.Proofs.Ytlonhkjplijlcaa
namespace Go.Proofs.Ytlonhkjplijlcaa
open Go.RowKit
end Go.Proofs.Ytlonhkjplijlcaa
namespace Go.Proofs.Ytlonhkjplijlcaa
open Go.RowKit
/-- What bounds a right film has. -/
structure FilR (l : List TrkT) : Prop where
  few : l.length ≤ 8
  smp : ∀ i, i < l.length → szOk (l.getD i default).smp ∧ (l.getD i default).smp.length ≤ 5000
  ed : ∀ i, i < l.length → (l.getD i default).ed.length ≤ 50
theorem FilOk.r {sc : Int} {l : List TrkT} (h : FilOk sc l) : FilR l :=
  ⟨h.few, fun i hi => ⟨szOk_of (trF_ok (h.tracks i hi)).2.2.1, (smpF_zero (trF_ok (h.tracks i hi)).2.2.1).1⟩, fun i hi => (trF_ok (h.tracks i hi)).2.2.2.1⟩
end Go.Proofs.Ytlonhkjplijlcaa
namespace Go.Proofs.Ytlonhkjplijlcaa
open Go.RowKit
/-- A row of numbers by a rule. -/
def rngV (f : Nat → Int) (m : Nat) : List Int := (List.range m).map f
theorem rngV_at {f : Nat → Int} {m k : Nat} (hk : k < m) : (rngV f m).getD k 0 = f k := by
  unfold rngV
  rw [List.getD_eq_getElem?_getD, List.getElem?_map, List.getElem?_range hk]
  rfl
/-- How many samples of track k are laid, in round n behind i tracks. -/
def doneV (T : List TrkT) (ch n i k : Nat) : Nat := min (T.getD k default).smp.length ((if k < i then n + 1 else n) * ch)
def smpV (T : List TrkT) (ch n i m : Nat) : List Int := rngV (fun k => (doneV T ch n i k : Int)) m
section
variable {T : List TrkT} {ch n i m : Nat}
def rdC (W : World) (g k : Nat) : Nat := match W.cell? ⟨g, k, none⟩ with
  | some v => (intOf v).toNat
  | none => 0
end
section
variable {w0 W : World} {gp m : Nat} {hs : List (Option Addr × Nat × Nat)} {pl : List (List Int)} {S : List (Nat × List Int)} {v : Value} {out : List UInt8}
theorem LaM.num (h : LaM w0 W gp m hs pl S v out) {j k : Nat} (hj : j < S.length) (hk : k < m) : W.cell? ⟨(S.getD j dI).1, k, none⟩ = some (.int .i64 ((S.getD j dI).2.getD k 0)) := by
  have := ((h.ints j hj).atS len_e64).num hk
  rwa [Nat.zero_add] at this
theorem LaM.row (h : LaM w0 W gp m hs pl S v out) {k : Nat} (hk : k < m) : W.cell? ⟨gp, k, none⟩ = some (rwV (hs.getD k dR)) := by
  have := (h.pls.atS len_eB1).cellK hk dR 0 _ rfl
  simpa using this
theorem LaM.rd {T : List TrkT} {ch n i gs : Nat} {S : List (Nat × List Int)} (h : LaM w0 W gp m hs pl ((gs, smpV T ch n i m) :: S) v out) {k : Nat} (hk : k < m) : rdC W gs k = doneV T ch n i k := by
  have h1 := h.num (j := 0) (by simp) hk
  rw [show ((gs, smpV T ch n i m) :: S).getD 0 dI = (gs, smpV T ch n i m) from rfl] at h1
  unfold rdC
  rw [h1]
  show ((smpV T ch n i m).getD k 0).toNat = _
  unfold smpV
  rw [rngV_at hk]
  rfl
end
theorem rep_getD {α : Type} {m k : Nat} {x : α} : (List.replicate m x).getD k x = x := by
  rw [List.getD_eq_getElem?_getD, List.getElem?_replicate]
  split <;> rfl
/-- The array of rows as it is made. -/
theorem LaM.start {w0 : World} {m : Nat} (hm : m ≤ maxLen) : LaM w0 (w0.alloc (.cells (madeCells #[.slice none 0 0] (m * 1)) 70)) w0.heap.size m (List.replicate m dR) (List.replicate m []) [] (.slice none 0 0) [] := by
  have hO : Own (w0.alloc (.cells (madeCells #[.slice none 0 0] (m * 1)) 70)) w0.heap.size 70 1 eB1 (.slice (some ⟨w0.heap.size, 0, none⟩) m m) (List.replicate m dR) := made_own (z := #[.slice none 0 0]) (x := dR) rfl rfl Nat.one_pos w0 w0.heap.size m (Nat.le_refl _) hm
  refine ⟨Ext.alloc _ _, hO, List.length_replicate, fun i _ => ?_, fun j hj => absurd hj (Nat.not_lt_zero _), Own.nil _ _ _ _ _, fun j hj => absurd hj (Nat.not_lt_zero _), fun j _ hj => absurd hj (Nat.not_lt_zero _), fun i _ g hg => ?_, fun g hg => by cases hg⟩
  · rw [rep_getD, rep_getD]; exact Own.nil _ _ _ _ _
  · rw [rep_getD] at hg; cases hg
end Go.Proofs.Ytlonhkjplijlcaa
