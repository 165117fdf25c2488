/- Several texts in one: Words for slices of slices of numbers. No condition; A drawn region whose last phase writes cells that elder operations load: more words. Conditions: as stated; Taking an operation of a drawn region first, its slot told. Conditions: as stated. -/
import Derived.Test.YtkbmgakehlmcnaaMtq00
import Derived.Test.YtkbmgakehlmcnaaMtq02
namespace Go.Proofs.Ytkbmgakehlmcnaa
open Go.RowKit
abbrev eH (h : Option Addr × Nat × Nat) : List Value := [.slice h.1 h.2.1 h.2.2]
structure Rws (w : World) (A : Option Addr) (n c : Nat) (xs : List (List Int)) : Prop where
  len : xs.length = n
  rows : ∃ hs : List (Option Addr × Nat × Nat), At w 1 eH A n c hs ∧ ∀ k, k < n → At w 1 e64 (hs.getD k (none, 0, 0)).1 (hs.getD k (none, 0, 0)).2.1 (hs.getD k (none, 0, 0)).2.2 (xs.getD k [])
section
variable {w w' : World} {A : Option Addr} {n c : Nat} {xs : List (List Int)}
theorem Rws.ext (h : Rws w A n c xs) (he : Ext w w') : Rws w' A n c xs := by
  obtain ⟨hl, hs, h1, h2⟩ := h
  exact ⟨hl, hs, h1.ext he, fun k hk => (h2 k hk).ext he⟩
theorem Rws.bound (h : Rws w A n c xs) : n ≤ 9223372036854775807 := by
  obtain ⟨hl, hs, h1, h2⟩ := h
  exact h1.bound
theorem Rws.addr (h : Rws w A n c xs) (hn : 0 < n) : ∃ b off, A = some ⟨b, off, none⟩ := by
  obtain ⟨hl, hs, h1, h2⟩ := h
  obtain ⟨b, off, e, _⟩ := h1.addr hn
  exact ⟨b, off, e⟩
theorem Rws.row {b off : Nat} (h : Rws w (some ⟨b, off, none⟩) n c xs) {k : Nat} (hk : k < n) :
    ∃ A' n' c', w.cell? ⟨b, off + k, none⟩ = some (.slice A' n' c') ∧ At w 1 e64 A' n' c' (xs.getD k []) := by
  obtain ⟨hl, hs, h1, h2⟩ := h
  have hh := h1.len
  obtain ⟨b', off', e, hc⟩ := h1.cells k _ (List.getElem?_eq_getElem (by omega))
  injection e with e
  injection e with e1 e2
  subst e1 e2
  have := hc 0 _ rfl
  have hg := h2 k hk
  rw [show hs.getD k (none, 0, 0) = hs[k]'(by omega) by simp [List.getD, show k < hs.length by omega]] at hg
  exact ⟨_, _, _, by simpa using this, hg⟩
end
section
variable {P : Program} {ops : Array Oper} {Q : Exit → Act → World → Prop} {md : Region.Mode} {S : World → Prop} {z : Nat}
theorem AnyZ.firstP {i : Nat} {oi : Oper} {v : Value} (hi : ops[i]? = some oi) (hne : z ≠ i)
    (hsel : ∀ (j : Nat) (o : Oper) cs b, ops[j]? = some o → o.op ≠ .select cs b)
    (hQ : ∀ c a w, Q (.panic c) (a.put oi.dst v) w → Q (.panic c) a w) :
    ∀ (n : Nat) (L : Array Bool) (a : Act) (w : World),
      (∀ j oj, ops[j]? = some oj → j ≠ i → L.getD j true = false → (∀ e ∈ oj.after, Region.binds md e = true → e.on ≠ i) → oi.apart ops oj = true) →
      i ∈ Region.ready md ops L → YieldsIf P ops (fun _ => True) oi v a → (L.getD z true = false → S w) →
      AnyZ P md ops Q S z n (L.setIfInBounds i true) (a.put oi.dst v) w → AnyZ P md ops Q S z (n + 1) L a w
  | 0, L, a, w, _, hr, hy, hS, H => by
    refine ⟨fun h => absurd hr (by simp [h]), fun j hj => ?_⟩
    by_cases hji : j = i
    · subst hji
      exact hy.wpOp hi trivial ⟨fun h => hS (by rwa [getD_set_ne true (Ne.symm hne)] at h), H⟩
    · exact absurd (ready_mono hj hji) (by simp [H.1])
  | n + 1, L, a, w, hf, hr, hy, hS, H => by
    refine ⟨fun h => absurd hr (by simp [h]), fun j hj => ?_⟩
    by_cases hji : j = i
    · subst hji
      exact hy.wpOp hi trivial ⟨fun h => hS (by rwa [getD_set_ne true (Ne.symm hne)] at h), H⟩
    obtain ⟨hu, oj, hoj, hall⟩ := mem_ready.1 hj
    have hin : ∀ e ∈ oj.after, Region.binds md e = true → e.on ≠ i := fun e he hb hq => by
      have hdone := hall e he hb
      have hopen := (mem_ready.1 hr).1
      rw [hq] at hdone
      by_cases hs : i < L.size
      · simp [hs] at hdone hopen
        rw [hdone] at hopen
        cases hopen
      · simp [hs] at hdone
    have st := wpOp_putIf hoj (hf j oj hoj hji hu hin) (fun cs b => hsel i oi cs b hi) (fun cs b => hsel j oj cs b hoj) hQ hy (H.2 j (ready_mono hj hji))
    refine wpOp_mono (fun a' w' ⟨hy', hS', hr'⟩ => ?_) st
    have hSw : (L.setIfInBounds j true).getD z true = false → S w' := fun h => hS' (by rw [Array.setIfInBounds_comm _ _ (Ne.symm hji), getD_set_ne true (Ne.symm hne)]; exact h)
    refine ⟨hSw, AnyZ.firstP hi hne hsel hQ n _ a' w' (fun k ok hk hki hun hno => hf k ok hk hki ?_ hno) (ready_mono hr (Ne.symm hji)) hy' hSw ?_⟩
    · by_cases hjk : j = k
      · subst hjk; exact hu
      · rwa [getD_set_ne true hjk] at hun
    · rw [Array.setIfInBounds_comm _ _ hji]
      exact hr'
theorem AnyZ.takeP {i : Nat} {oi : Oper} {v : Value} {n : Nat} {L : Array Bool} {a : Act} {w : World} (hi : ops[i]? = some oi)
    (hne : (z == i) = false) (hs : Region.noSelect ops = true) (hf : Region.free md ops L i = true) (hr : (Region.ready md ops L).contains i = true)
    (hQ : ∀ c a w, Q (.panic c) (a.put oi.dst v) w → Q (.panic c) a w) (hy : YieldsIf P ops (fun _ => True) oi v a) (hS : S w)
    (h : AnyZ P md ops Q S z n (L.setIfInBounds i true) (a.put oi.dst v) w) : AnyZ P md ops Q S z (n + 1) L a w :=
  AnyZ.firstP hi (by simpa using hne) (Region.noSelect_spec hs) hQ n L a w (Region.free_spec hi hf) (by simpa using hr) hy (fun _ => hS) h
def AllZ (P : Program) (md : Region.Mode) (ops : Array Oper) (Q : Exit → Act → World → Prop) (S : World → Prop) (z n : Nat) (L : Array Bool) (a : Act) (w : World) : List Nat → Prop
  | [] => True
  | i :: r => wpOp P ops Q i (fun a' w' => ((L.setIfInBounds i true).getD z true = false → S w') ∧ AnyZ P md ops Q S z n (L.setIfInBounds i true) a' w') a w ∧ AllZ P md ops Q S z n L a w r
theorem AllZ.mem {n : Nat} {L : Array Bool} {a : Act} {w : World} : ∀ {r : List Nat}, AllZ P md ops Q S z n L a w r → ∀ i ∈ r, wpOp P ops Q i (fun a' w' => ((L.setIfInBounds i true).getD z true = false → S w') ∧ AnyZ P md ops Q S z n (L.setIfInBounds i true) a' w') a w
  | [], _, i, hi => by cases hi
  | j :: r, h, i, hi => by
    rcases List.mem_cons.1 hi with rfl | hi
    · exact h.1
    · exact h.2.mem i hi
theorem AnyZ.many {n : Nat} {L : Array Bool} {a : Act} {w : World} {i : Nat} {r : List Nat} (hr : Region.ready md ops L = i :: r) (h : AllZ P md ops Q S z n L a w (i :: r)) : AnyZ P md ops Q S z (n + 1) L a w :=
  ⟨fun h0 => absurd h0 (by simp [hr]), by rw [hr]; exact h.mem⟩
theorem AllZ.cons {i : Nat} {n : Nat} {o : Oper} {L : Array Bool} {a : Act} {w : World} {r : List Nat} (ho : ops[i]? = some o)
    (h : ∀ K : Act → World → Prop, Shut (∀ a' w', ((L.setIfInBounds i true).getD z true = false → S w') → AnyZ P md ops Q S z n (L.setIfInBounds i true) a' w' → K a' w') → if Region.wanted o (yielded ops a.tmps) = true then Oper.wp P o a w K Q else K (a.put o.dst undef) w)
    (hr : AllZ P md ops Q S z n L a w r) : AllZ P md ops Q S z n L a w (i :: r) :=
  ⟨wpOp_step ho fun K hK => h K fun a' w' hS hA => hK a' w' ⟨hS, hA⟩, hr⟩
theorem gen_z {n : Nat} {L : Array Bool} {a : Act} {w : World} (h : ∀ W, W = w → AnyZ P md ops Q S z n L a W) : AnyZ P md ops Q S z n L a w := h w rfl
end
theorem At.gr {w w' : World} {row : Option Nat} {p n c : Nat} {l : List Int} (h : At w 1 e64 (some ⟨p, 0, none⟩) n c l) (g : w.grownBy w' row) (hp : some p ≠ row) : At w' 1 e64 (some ⟨p, 0, none⟩) n c l :=
  ⟨h.len, h.le, h.max, h.none_, fun k x hx => by
    obtain ⟨b, off, e, hc⟩ := h.cells k x hx
    injection e with e
    injection e with e1 e2
    subst e1 e2
    exact ⟨p, 0, rfl, fun j u hu => g.cell (hc j u hu) (by simpa using hp)⟩⟩
theorem AnyZ.takeE {P : Program} {ops : Array Oper} {Q : Exit → Act → World → Prop} {md : Region.Mode} {S : World → Prop} {z : Nat} {i d : Nat} {oi oz : Oper} {v : Value} {n : Nat} {L : Array Bool} {a : Act} {w : World} (hi : ops[i]? = some oi) (hd : oi.dst = some d) (hz : ops[z]? = some oz)
    (hzi : (oz.after.any fun e => Region.binds md e && e.on == i) = true) (hne : (z == i) = false) (hs : Region.noSelect ops = true) (hf : Region.free md ops L i = true) (hr : (Region.ready md ops L).contains i = true) (hLz : L.getD z true = false)
    (hQ : ∀ c a w, Q (.panic c) (a.put oi.dst v) w → Q (.panic c) a w) (hy : YieldsIf P ops S oi v a) (hS : S w)
    (h : AnyZ P md ops Q S z n (L.setIfInBounds i true) (a.put (some d) v) w) : AnyZ P md ops Q S z (n + 1) L a w :=
  AnyZ.take hi hz hzi hne hs hf hr hLz hQ hy hS (by rw [hd]; exact h)
theorem AnyZ.takePE {P : Program} {ops : Array Oper} {Q : Exit → Act → World → Prop} {md : Region.Mode} {S : World → Prop} {z : Nat} {i d : Nat} {oi : Oper} {v : Value} {n : Nat} {L : Array Bool} {a : Act} {w : World} (hi : ops[i]? = some oi) (hd : oi.dst = some d)
    (hne : (z == i) = false) (hs : Region.noSelect ops = true) (hf : Region.free md ops L i = true) (hr : (Region.ready md ops L).contains i = true)
    (hQ : ∀ c a w, Q (.panic c) (a.put oi.dst v) w → Q (.panic c) a w) (hy : YieldsIf P ops (fun _ => True) oi v a) (hS : S w)
    (h : AnyZ P md ops Q S z n (L.setIfInBounds i true) (a.put (some d) v) w) : AnyZ P md ops Q S z (n + 1) L a w :=
  AnyZ.takeP hi hne hs hf hr hQ hy hS (by rw [hd]; exact h)
theorem AnyZ.takeZE {P : Program} {ops : Array Oper} {Q : Exit → Act → World → Prop} {md : Region.Mode} {S : World → Prop} {z : Nat} {i d : Nat} {oi : Oper} {v : Value} {n : Nat} {L : Array Bool} {a : Act} {w : World} (hi : ops[i]? = some oi) (hd : oi.dst = some d)
    (hne : (z == i) = false) (hs : Region.noSelect ops = true) (hf : Region.free md ops L i = true) (hr : (Region.ready md ops L).contains i = true) (hLz : L.getD z true = true)
    (hQ : ∀ c a w, Q (.panic c) (a.put oi.dst v) w → Q (.panic c) a w) (hy : YieldsIf P ops (fun _ => True) oi v a)
    (h : AnyZ P md ops Q S z n (L.setIfInBounds i true) (a.put (some d) v) w) : AnyZ P md ops Q S z (n + 1) L a w :=
  AnyZ.firstP hi (by simpa using hne) (Region.noSelect_spec hs) hQ n L a w (Region.free_spec hi hf) (by simpa using hr) hy (fun h0 => by rw [hLz] at h0; cases h0) (by rw [hd]; exact h)
end Go.Proofs.Ytkbmgakehlmcnaa
