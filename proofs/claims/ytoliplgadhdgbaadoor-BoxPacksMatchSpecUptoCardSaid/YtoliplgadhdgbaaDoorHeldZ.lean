/- A drawn region whose last operation writes a cell that an elder one loads. Conditions: as stated. -/
import Derived.Test.YtoliplgadhdgbaaDoorBase
import Derived.Deep.RegionHeld3
namespace Go.Proofs.YtoliplgadhdgbaaDoor
open Go.RowKit
section
variable {P : Program} {ops : Array Oper} {Q : Exit → Act → World → Prop} {md : Region.Mode} {S : World → Prop} {z : Nat}

/-- Whatever order is picked, with S kept behind each operation until number z has come up. -/
def AnyZ (P : Program) (md : Region.Mode) (ops : Array Oper) (Q : Exit → Act → World → Prop) (S : World → Prop) (z : Nat) : Nat → Array Bool → Act → World → Prop
  | 0, L, a, w => Region.ready md ops L = [] ∧ Q .normal a w
  | n + 1, L, a, w => (Region.ready md ops L = [] → Q .normal a w) ∧
    ∀ i ∈ Region.ready md ops L, wpOp P ops Q i (fun a' w' => ((L.setIfInBounds i true).getD z true = false → S w') ∧ AnyZ P md ops Q S z n (L.setIfInBounds i true) a' w') a w

theorem AnyZ.any : ∀ (n : Nat) (L : Array Bool) (a : Act) (w : World), AnyZ P md ops Q S z n L a w → wpAny P md ops Q n L a w
  | 0, _, _, _, h => h
  | n + 1, _, _, _, ⟨h0, h1⟩ => ⟨h0, fun i hi => wpOp_mono (fun a' w' h' => AnyZ.any n _ a' w' h'.2) (h1 i hi)⟩

theorem AnyZ.first {i : Nat} {oi oz : Oper} {v : Value} (hi : ops[i]? = some oi) (hz : ops[z]? = some oz) (hzi : ∃ e ∈ oz.after, Region.binds md e = true ∧ e.on = i) (hne : z ≠ i)
    (hsel : ∀ (j : Nat) (o : Oper) cs b, ops[j]? = some o → o.op ≠ .select cs b)
    (hQ : ∀ c a w, Q (.panic c) (a.put oi.dst v) w → Q (.panic c) a w) :
    ∀ (n : Nat) (L : Array Bool) (a : Act) (w : World),
      (∀ j oj, ops[j]? = some oj → j ≠ i → L.getD j true = false → (∀ e ∈ oj.after, Region.binds md e = true → e.on ≠ i) → oi.apart ops oj = true) →
      i ∈ Region.ready md ops L → L.getD z true = false → YieldsIf P ops S oi v a → S w →
      AnyZ P md ops Q S z n (L.setIfInBounds i true) (a.put oi.dst v) w → AnyZ P md ops Q S z (n + 1) L a w
  | 0, L, a, w, _, hr, _, hy, hS, H => by
    refine ⟨fun h => absurd hr (by simp [h]), fun j hj => ?_⟩
    by_cases hji : j = i
    · subst hji
      exact hy.wpOp hi hS ⟨fun _ => hS, H⟩
    · exact absurd (ready_mono hj hji) (by simp [H.1])
  | n + 1, L, a, w, hf, hr, hL, hy, hS, H => by
    refine ⟨fun h => absurd hr (by simp [h]), fun j hj => ?_⟩
    by_cases hji : j = i
    · subst hji
      exact hy.wpOp hi hS ⟨fun _ => hS, H⟩
    obtain ⟨hu, oj, hoj, hall⟩ := mem_ready.1 hj
    have hin : ∀ e ∈ oj.after, Region.binds md e = true → e.on ≠ i := fun e he hb hq => by
      have hdone := hall e he hb
      have hopen := (mem_ready.1 hr).1
      rw [hq] at hdone
      by_cases hs : i < L.size
      · simp [hs] at hdone hopen
        rw [hdone] at hopen
        cases hopen
      · simp [hs] at hdone
    have hjz : j ≠ z := fun h => by
      subst h
      obtain ⟨e, he, hb, hq⟩ := hzi
      rw [hz] at hoj
      injection hoj with hoj
      subst hoj
      exact hin e he hb hq
    have hLz : (L.setIfInBounds j true).getD z true = false := by rw [getD_set_ne true hjz]; exact hL
    have hLz2 : ((L.setIfInBounds i true).setIfInBounds j true).getD z true = false := by
      rw [getD_set_ne true hjz, getD_set_ne true (Ne.symm hne)]; exact hL
    have st := wpOp_putIf hoj (hf j oj hoj hji hu hin) (fun cs b => hsel i oi cs b hi) (fun cs b => hsel j oj cs b hoj) hQ hy (H.2 j (ready_mono hj hji))
    refine wpOp_mono (fun a' w' ⟨hy', hS', hr'⟩ => ?_) st
    have hSw := hS' hLz2
    refine ⟨fun _ => hSw, AnyZ.first hi hz hzi hne hsel hQ n _ a' w' (fun k ok hk hki hun hno => hf k ok hk hki ?_ hno) (ready_mono hr (Ne.symm hji)) hLz hy' hSw ?_⟩
    · by_cases hjk : j = k
      · subst hjk; exact hu
      · rwa [getD_set_ne true hjk] at hun
    · rw [Array.setIfInBounds_comm _ _ hji]
      exact hr'

theorem AnyZ.take {i : Nat} {oi oz : Oper} {v : Value} {n : Nat} {L : Array Bool} {a : Act} {w : World} (hi : ops[i]? = some oi) (hz : ops[z]? = some oz)
    (hzi : (oz.after.any fun e => Region.binds md e && e.on == i) = true) (hne : (z == i) = false) (hs : Region.noSelect ops = true) (hf : Region.free md ops L i = true) (hr : (Region.ready md ops L).contains i = true) (hLz : L.getD z true = false)
    (hQ : ∀ c a w, Q (.panic c) (a.put oi.dst v) w → Q (.panic c) a w) (hy : YieldsIf P ops S oi v a) (hS : S w)
    (h : AnyZ P md ops Q S z n (L.setIfInBounds i true) (a.put oi.dst v) w) : AnyZ P md ops Q S z (n + 1) L a w :=
  AnyZ.first hi hz (by
    obtain ⟨e, he, h⟩ := Array.any_eq_true'.1 hzi
    simp only [Bool.and_eq_true, beq_iff_eq] at h
    exact ⟨e, he, h⟩) (by simpa using hne) (Region.noSelect_spec hs) hQ n L a w (Region.free_spec hi hf) (by simpa using hr) hLz hy hS h

/-- The one operation that may come up comes up. -/
theorem AnyZ.one {i : Nat} {n : Nat} {L : Array Bool} {a : Act} {w : World} (hr : Region.ready md ops L = [i])
    (h : wpOp P ops Q i (fun a' w' => ((L.setIfInBounds i true).getD z true = false → S w') ∧ AnyZ P md ops Q S z n (L.setIfInBounds i true) a' w') a w) : AnyZ P md ops Q S z (n + 1) L a w :=
  ⟨fun h0 => absurd h0 (by simp [hr]), by rw [hr]; simpa using h⟩

/-- The one operation that may come up comes up, handed over behind a letter. -/
theorem AnyZ.step {i : Nat} {n : Nat} {o : Oper} {L : Array Bool} {a : Act} {w : World} (ho : ops[i]? = some o) (hr : Region.ready md ops L = [i])
    (h : ∀ K : Act → World → Prop, Shut (∀ a' w', ((L.setIfInBounds i true).getD z true = false → S w') → AnyZ P md ops Q S z n (L.setIfInBounds i true) a' w' → K a' w') → if Region.wanted o (yielded ops a.tmps) = true then Oper.wp P o a w K Q else K (a.put o.dst undef) w) : AnyZ P md ops Q S z (n + 1) L a w :=
  AnyZ.one hr (wpOp_step ho fun K hK => h K fun a' w' hS hA => hK a' w' ⟨hS, hA⟩)

theorem AnyZ.done {L : Array Bool} {a : Act} {w : World} (hr : Region.ready md ops L = []) (h : Q .normal a w) : ∀ n, AnyZ P md ops Q S z n L a w
  | 0 => ⟨hr, h⟩
  | _ + 1 => ⟨fun _ => h, by rw [hr]; simp⟩

theorem region_z {id : Nat} {a : Act} {w : World} (z : Nat) (hm : P.follows .mixedOrders = true)
    (h : AnyZ P .any ops Q S z ops.size (Array.replicate ops.size false) a { w with drawn := w.drawn + 1 }) : (Code.region id ops true).wp P Q a w :=
  wp_region_any hm (AnyZ.any _ _ _ _ h)
theorem region_any {id : Nat} {a : Act} {w : World} (hm : P.follows .mixedOrders = true) (h : wpAny P .any ops Q ops.size (Array.replicate ops.size false) a w.drew) : (Code.region id ops true).wp P Q a w := wp_region_any hm h
/-- Take an operation first that yields its value in whatever world. -/
theorem any_take {i d : Nat} {oi : Oper} {v : Value} {n : Nat} {L : Array Bool} {a : Act} {w : World} (hi : ops[i]? = some oi) (hd : oi.dst = some d) (hs : Region.noSelect ops = true)
    (hf : Region.free md ops L i = true) (hr : (Region.ready md ops L).contains i = true) (hQ : ∀ c a w, Q (.panic c) (a.put oi.dst v) w → Q (.panic c) a w) (hy : Yields P ops oi v a)
    (h : wpAny P md ops Q n (L.setIfInBounds i true) (a.put (some d) v) w) : wpAny P md ops Q (n + 1) L a w :=
  wpAny_take hi hs hf hr hQ hy (by rw [hd]; exact h)
end
end Go.Proofs.YtoliplgadhdgbaaDoor
