/- make of a slice: its run equation, and that it is an own row of elements alike. Conditions as stated. -/
import Derived.Test.YtoliplgadhdgbaaDoorBase
import Derived.Laws.OwnMore
import Derived.Laws.MakeOwn
namespace Go.Proofs.YtoliplgadhdgbaaDoor
open Go.RowKit
theorem made_flat {α : Type} {enc : α → List Value} {z : Array Value} {x : α} {sz : Nat} (hz : enc x = z.toList) (hs : z.size = sz) (h0 : 0 < sz) (m : Nat) : (madeCells z (m * sz)).toList = (List.replicate m x).flatMap enc := by
  subst hs
  apply List.ext_getElem?
  intro i
  have hl : ∀ m, ((List.replicate m x).flatMap enc).length = m * z.size := by
    intro m
    induction m with
    | zero => simp
    | succ m ih => rw [List.replicate_succ, List.flatMap_cons, List.length_append, ih, hz]; simp [Nat.add_mul]; omega
  by_cases hi : i < m * z.size
  · have hq : i / z.size < m := Nat.div_lt_of_lt_mul (by rw [Nat.mul_comm]; exact hi)
    have hr : i % z.size < z.size := Nat.mod_lt _ h0
    have he : i / z.size * z.size + i % z.size = i := by rw [Nat.mul_comm]; exact Nat.div_add_mod i _
    have key : ∀ (m q r : Nat), q < m → r < z.size → ((List.replicate m x).flatMap enc)[q * z.size + r]? = some (z[r]!) := by
      intro m
      induction m with
      | zero => intro q r hq _; omega
      | succ m ih =>
        intro q r hq hr
        rw [List.replicate_succ, List.flatMap_cons]
        have hln : (enc x).length = z.size := by rw [hz]; simp
        cases q with
        | zero =>
          rw [List.getElem?_append_left (by rw [hln]; omega), hz]
          simp [hr]
        | succ q =>
          rw [List.getElem?_append_right (by rw [hln, Nat.add_mul]; omega), hln, show (q + 1) * z.size + r - z.size = q * z.size + r by rw [Nat.add_mul]; omega]
          exact ih q r (by omega) hr
    have := key m (i / z.size) (i % z.size) hq hr
    rw [he] at this
    rw [this]
    unfold madeCells
    simp [hi, hr]
  · rw [List.getElem?_eq_none (by rw [Array.length_toList, size_madeCells]; omega), List.getElem?_eq_none (by rw [hl]; omega)]
theorem made_own {α : Type} {enc : α → List Value} {z : Array Value} {x : α} {sz : Nat} {t : TypeId} (hz : enc x = z.toList) (hs : z.size = sz) (h0 : 0 < sz) (W : World) (base m : Nat) (hb : base ≤ W.heap.size) (hm : m ≤ maxLen) :
    Own (W.alloc (.cells (madeCells z (m * sz)) t)) base t sz enc (.slice (some ⟨W.heap.size, 0, none⟩) m m) (List.replicate m x) := by
  have := World.ownsRow_lit (base := base) (size := sz) (e := t) W (madeCells z (m * sz)) m hb hm (size_madeCells _ _)
  rw [made_flat hz hs h0] at this
  unfold Own
  rw [List.length_replicate]
  exact this
theorem made_run {P : Program} (t e : TypeId) (i : TypeInfo) (z : Value) {sz bytes : Nat} (ht : P.underlying t = some (.slice e)) (hi : P.info? e = some i) (hz : i.zero = some z) (hs : i.size = sz) (hby : i.bytes = bytes) (m : Nat) (h1 : bytes * m ≤ 281474976710656) (h2 : m ≤ 9223372036854775807) :
    ∀ W : World, (Instr.makeSlice t (.int .i64 (m : Int)) (.int .i64 (m : Int))).run P W = .ok (.slice (some ⟨W.heap.size, 0, none⟩) m m) (W.alloc (.cells (madeCells z.cells (m * sz)) e)) := fun W => by
  have := run_make (P := P) W t e i z ht hi hz .i64 .i64 (m : Int) (m : Int) (by omega) (Int.le_refl _) (by rw [hby]; rw [← Int.natCast_mul]; omega) (by omega)
  rw [hs] at this
  simpa using this
end Go.Proofs.YtoliplgadhdgbaaDoor
