/- Walk: follow of the document, with choices given. Conditions: as stated. -/
import Derived.Test.YtajadgpkmommmaaFolP
import Derived.Test.YtajadgpkmommmaaOut
import Derived.Test.YtajadgpkmommmaaTw
import Derived.Test.YtajadgpkmommmaaStep
import Derived.Deep.DeepCutAuto
import Derived.Test.YtajadgpkmommmaaHeldZ
import Derived.Test.YtajadgpkmommmaaPairs
import Derived.Test.YtajadgpkmommmaaRows2
import Derived.Test.YtajadgpkmommmaaFolA
import Derived.Test.YtajadgpkmommmaaWithP
namespace Go.Proofs.Ytajadgpkmommmaa
open Go.RowKit

section
variable {ch asd arr st ld : Value} {beg en at_ buf stl : Int} {pl bg : Bool} {g : Nat} {w : World}
end
end Go.Proofs.Ytajadgpkmommmaa
namespace Go.Proofs.Ytajadgpkmommmaa
open Go.RowKit

theorem Try.infoSpan : (Try.prog.info? 64).map (fun i => (i.zero, i.size, i.bytes)) = some (some (.agg #[.int .i64 0, .int .i64 0]), 2, 16) := by kernel_rfl
/-- What the append of a stall reads. -/
def ComS (g : Nat) (st : Value) (stl : Int) (W : World) : Prop := W.cell? ⟨g, 4, none⟩ = some st ∧ W.cell? ⟨g, 10, none⟩ = some (.int .i64 stl)
theorem ComS.ext {g : Nat} {st : Value} {stl : Int} {w w' : World} (h : ComS g st stl w) (he : Ext w w') : ComS g st stl w' := ⟨he.cell h.1, he.cell h.2⟩
theorem passR_parts {t : Int} {s : WaT} (hb : 0 ≤ s.buf) (ht : s.at_ ≤ t) : (passR t s).at_ = t ∧ 0 ≤ (passR t s).buf ∧ (passR t s).buf ≤ s.buf ∧ (passR t s).begun = s.begun ∧ (passR t s).beg = s.beg ∧ (passR t s).stalls = s.stalls := by
  obtain ⟨a0, b0, p0, g0, s0, e0, l0⟩ := s
  unfold passR
  cases p0 <;> grind
theorem comeR_eq {start resume long t : Int} {last : Bool} {s : WaT} : comeR start resume long t last s =
    (if (passR t s).plays = true then { passR t s with buf := (passR t s).buf + long }
     else if (passR t s).buf + long < (if (passR t s).begun = true then resume else start) ∧ last = false then { passR t s with buf := (passR t s).buf + long }
     else if (passR t s).begun = true then { passR t s with buf := (passR t s).buf + long, plays := true, stalls := (passR t s).stalls ++ [((passR t s).stalled, t)] } else { passR t s with buf := (passR t s).buf + long, plays := true, begun := true, beg := t }) := rfl
section
variable {ch asd arr st ld : Value} {beg en at_ buf stl : Int} {pl bg : Bool} {g B : Nat} {w : World}
end
end Go.Proofs.Ytajadgpkmommmaa
namespace Go.Proofs.Ytajadgpkmommmaa
open Go.RowKit
section
variable {P : Program} {ops : Array Oper} {Q : Exit → Act → World → Prop} {md : Region.Mode} {S : World → Prop} {z : Nat}
/-- An operation that yields its value in whatever world is taken first, before or behind z. -/
theorem AnyZ.firstP {i : Nat} {oi : Oper} {v : Value} (hi : ops[i]? = some oi) (hne : z ≠ i)
    (hsel : ∀ (j : Nat) (o : Oper) cs b, ops[j]? = some o → o.op ≠ .select cs b)
    (hQ : ∀ c a w, Q (.panic c) (a.put oi.dst v) w → Q (.panic c) a w) :
    ∀ (n : Nat) (L : Array Bool) (a : Act) (w : World),
      (∀ j oj, ops[j]? = some oj → j ≠ i → L.getD j true = false → (∀ e ∈ oj.after, Region.binds md e = true → e.on ≠ i) → oi.apart ops oj = true) →
      i ∈ Region.ready md ops L → YieldsIf P ops (fun _ => True) oi v a → (L.getD z true = false → S w) →
      AnyZ P md ops Q S z n (L.setIfInBounds i true) (a.put oi.dst v) w → AnyZ P md ops Q S z (n + 1) L a w
  | 0, L, a, w, _, hr, hy, hS, H => by
    refine ⟨fun h => absurd hr (by simp [h]), fun j hj => ?_⟩
    by_cases hji : j = i
    · subst hji
      exact hy.wpOp hi trivial ⟨fun h => hS (by rwa [getD_set_ne true (Ne.symm hne)] at h), H⟩
    · exact absurd (ready_mono hj hji) (by simp [H.1])
  | n + 1, L, a, w, hf, hr, hy, hS, H => by
    refine ⟨fun h => absurd hr (by simp [h]), fun j hj => ?_⟩
    by_cases hji : j = i
    · subst hji
      exact hy.wpOp hi trivial ⟨fun h => hS (by rwa [getD_set_ne true (Ne.symm hne)] at h), H⟩
    obtain ⟨hu, oj, hoj, hall⟩ := mem_ready.1 hj
    have hin : ∀ e ∈ oj.after, Region.binds md e = true → e.on ≠ i := fun e he hb hq => by
      have hdone := hall e he hb
      have hopen := (mem_ready.1 hr).1
      rw [hq] at hdone
      by_cases hs : i < L.size
      · simp [hs] at hdone hopen
        rw [hdone] at hopen
        cases hopen
      · simp [hs] at hdone
    have st := wpOp_putIf hoj (hf j oj hoj hji hu hin) (fun cs b => hsel i oi cs b hi) (fun cs b => hsel j oj cs b hoj) hQ hy (H.2 j (ready_mono hj hji))
    refine wpOp_mono (fun a' w' ⟨hy', hS', hr'⟩ => ?_) st
    have hSw : (L.setIfInBounds j true).getD z true = false → S w' := fun h => hS' (by rw [Array.setIfInBounds_comm _ _ (Ne.symm hji), getD_set_ne true (Ne.symm hne)]; exact h)
    refine ⟨hSw, AnyZ.firstP hi hne hsel hQ n _ a' w' (fun k ok hk hki hun hno => hf k ok hk hki ?_ hno) (ready_mono hr (Ne.symm hji)) hy' hSw ?_⟩
    · by_cases hjk : j = k
      · subst hjk; exact hu
      · rwa [getD_set_ne true hjk] at hun
    · rw [Array.setIfInBounds_comm _ _ hji]
      exact hr'
theorem AnyZ.takeP {i : Nat} {oi : Oper} {v : Value} {n : Nat} {L : Array Bool} {a : Act} {w : World} (hi : ops[i]? = some oi)
    (hne : (z == i) = false) (hs : Region.noSelect ops = true) (hf : Region.free md ops L i = true) (hr : (Region.ready md ops L).contains i = true)
    (hQ : ∀ c a w, Q (.panic c) (a.put oi.dst v) w → Q (.panic c) a w) (hy : YieldsIf P ops (fun _ => True) oi v a) (hS : S w)
    (h : AnyZ P md ops Q S z n (L.setIfInBounds i true) (a.put oi.dst v) w) : AnyZ P md ops Q S z (n + 1) L a w :=
  AnyZ.firstP hi (by simpa using hne) (Region.noSelect_spec hs) hQ n L a w (Region.free_spec hi hf) (by simpa using hr) hy (fun _ => hS) h
/-- All operations of a list, one goal each. -/
def AllZ (P : Program) (md : Region.Mode) (ops : Array Oper) (Q : Exit → Act → World → Prop) (S : World → Prop) (z n : Nat) (L : Array Bool) (a : Act) (w : World) : List Nat → Prop
  | [] => True
  | i :: r => wpOp P ops Q i (fun a' w' => ((L.setIfInBounds i true).getD z true = false → S w') ∧ AnyZ P md ops Q S z n (L.setIfInBounds i true) a' w') a w ∧ AllZ P md ops Q S z n L a w r
theorem AllZ.mem {n : Nat} {L : Array Bool} {a : Act} {w : World} : ∀ {r : List Nat}, AllZ P md ops Q S z n L a w r → ∀ i ∈ r, wpOp P ops Q i (fun a' w' => ((L.setIfInBounds i true).getD z true = false → S w') ∧ AnyZ P md ops Q S z n (L.setIfInBounds i true) a' w') a w
  | [], _, i, hi => by cases hi
  | j :: r, h, i, hi => by
    rcases List.mem_cons.1 hi with rfl | hi
    · exact h.1
    · exact h.2.mem i hi
theorem AnyZ.many {n : Nat} {L : Array Bool} {a : Act} {w : World} {i : Nat} {r : List Nat} (hr : Region.ready md ops L = i :: r) (h : AllZ P md ops Q S z n L a w (i :: r)) : AnyZ P md ops Q S z (n + 1) L a w :=
  ⟨fun h0 => absurd h0 (by simp [hr]), by rw [hr]; exact h.mem⟩
theorem AllZ.cons {i : Nat} {n : Nat} {o : Oper} {L : Array Bool} {a : Act} {w : World} {r : List Nat} (ho : ops[i]? = some o)
    (h : ∀ K : Act → World → Prop, Shut (∀ a' w', ((L.setIfInBounds i true).getD z true = false → S w') → AnyZ P md ops Q S z n (L.setIfInBounds i true) a' w' → K a' w') → if Region.wanted o (yielded ops a.tmps) = true then Oper.wp P o a w K Q else K (a.put o.dst undef) w)
    (hr : AllZ P md ops Q S z n L a w r) : AllZ P md ops Q S z n L a w (i :: r) :=
  ⟨wpOp_step ho fun K hK => h K fun a' w' hS hA => hK a' w' ⟨hS, hA⟩, hr⟩
theorem gen_z {n : Nat} {L : Array Bool} {a : Act} {w : World} (h : ∀ W, W = w → AnyZ P md ops Q S z n L a W) : AnyZ P md ops Q S z n L a w := h w rfl
end
theorem At.gr {w w' : World} {row : Option Nat} {p n c : Nat} {l : List Int} (h : At w 1 e64 (some ⟨p, 0, none⟩) n c l) (g : w.grownBy w' row) (hp : some p ≠ row) : At w' 1 e64 (some ⟨p, 0, none⟩) n c l :=
  ⟨h.len, h.le, h.max, h.none_, fun k x hx => by
    obtain ⟨b, off, e, hc⟩ := h.cells k x hx
    injection e with e
    injection e with e1 e2
    subst e1 e2
    exact ⟨p, 0, rfl, fun j u hu => g.cell (hc j u hu) (by simpa using hp)⟩⟩
end Go.Proofs.Ytajadgpkmommmaa
namespace Go.Proofs.Ytajadgpkmommmaa
open Go.RowKit

section
variable {lA : Option Addr} {ln lc : Nat} {sA : Option Addr} {sn sc : Nat} {qA : Option Addr} {qn qc : Nat} {d0 s0 r0 f0 i0 k0 l0 t0 lo0 hi0 a0 x0 y0 z0 gw gb : Int} {c1 c2 c3 v1 v2 v3 st ld : Value} {F : FoT} {w W W' : World}
end
end Go.Proofs.Ytajadgpkmommmaa
namespace Go.Proofs.Ytajadgpkmommmaa
open Go.RowKit
section
variable {P : Program} {ops : Array Oper} {Q : Exit → Act → World → Prop} {md : Region.Mode} {S : World → Prop} {z : Nat}
/-- The operations that may come up: of each pair 0 (nothing yet), 1 (made), 2 (taken). -/
def threeR (b1 a1 b2 a2 b3 a3 s1 s2 s3 : Nat) : List Nat :=
  (if s1 = 0 then [b1] else if s1 = 1 then [a1] else []) ++ (if s2 = 0 then [b2] else if s2 = 1 ∧ s1 = 2 then [a2] else []) ++ (if s3 = 0 then [b3] else if s3 = 1 ∧ s1 = 2 ∧ s2 = 2 then [a3] else [])
/-- What has come up, then. -/
def threeL (L : Array Bool) (b1 a1 b2 a2 b3 a3 s1 s2 s3 : Nat) : Array Bool :=
  let L := if 1 ≤ s1 then L.setIfInBounds b1 true else L
  let L := if 2 ≤ s1 then L.setIfInBounds a1 true else L
  let L := if 1 ≤ s2 then L.setIfInBounds b2 true else L
  let L := if 2 ≤ s2 then L.setIfInBounds a2 true else L
  let L := if 1 ≤ s3 then L.setIfInBounds b3 true else L
  if 2 ≤ s3 then L.setIfInBounds a3 true else L
/-- One operation of those that may come up. -/
theorem AllZ.ofAll {n : Nat} {L : Array Bool} {a : Act} {w : World} : ∀ {r : List Nat}, (∀ i ∈ r, wpOp P ops Q i (fun a' w' => ((L.setIfInBounds i true).getD z true = false → S w') ∧ AnyZ P md ops Q S z n (L.setIfInBounds i true) a' w') a w) → AllZ P md ops Q S z n L a w r
  | [], _ => True.intro
  | i :: _, h => ⟨h i (List.mem_cons_self ..), AllZ.ofAll fun j hj => h j (List.mem_cons_of_mem _ hj)⟩
theorem AnyZ.three {b1 a1 b2 a2 b3 a3 n : Nat} {L : Array Bool} (Inv : Nat → Nat → Nat → Act → World → Prop)
    (hready : ∀ s1 s2 s3, s1 ≤ 2 → s2 ≤ 2 → s3 ≤ 2 → (s2 = 2 → s1 = 2) → (s3 = 2 → s2 = 2) → ¬ (s1 = 2 ∧ s2 = 2 ∧ s3 = 2) → Region.ready md ops (threeL L b1 a1 b2 a2 b3 a3 s1 s2 s3) = threeR b1 a1 b2 a2 b3 a3 s1 s2 s3)
    (hset : ∀ i s1 s2 s3, s1 ≤ 2 → s2 ≤ 2 → s3 ≤ 2 → i ∈ threeR b1 a1 b2 a2 b3 a3 s1 s2 s3 → (threeL L b1 a1 b2 a2 b3 a3 s1 s2 s3).setIfInBounds i true =
      (if i = b1 ∨ i = a1 then threeL L b1 a1 b2 a2 b3 a3 (s1 + 1) s2 s3 else if i = b2 ∨ i = a2 then threeL L b1 a1 b2 a2 b3 a3 s1 (s2 + 1) s3 else threeL L b1 a1 b2 a2 b3 a3 s1 s2 (s3 + 1)))
    (hop : ∀ i s1 s2 s3 a w, s1 ≤ 2 → s2 ≤ 2 → s3 ≤ 2 → (s2 = 2 → s1 = 2) → (s3 = 2 → s2 = 2) → i ∈ threeR b1 a1 b2 a2 b3 a3 s1 s2 s3 → Inv s1 s2 s3 a w →
      wpOp P ops Q i (fun a' w' => S w' ∧ (if i = b1 ∨ i = a1 then Inv (s1 + 1) s2 s3 a' w' else if i = b2 ∨ i = a2 then Inv s1 (s2 + 1) s3 a' w' else Inv s1 s2 (s3 + 1) a' w')) a w)
    (hin : ∀ i s1 s2 s3, i ∈ threeR b1 a1 b2 a2 b3 a3 s1 s2 s3 → (i = b1 ∧ s1 = 0 ∨ i = a1 ∧ s1 = 1) ∧ (i = b1 ∨ i = a1) ∨ ¬ (i = b1 ∨ i = a1) ∧ (i = b2 ∨ i = a2) ∧ (s2 = 0 ∨ s2 = 1 ∧ s1 = 2) ∨ ¬ (i = b1 ∨ i = a1) ∧ ¬ (i = b2 ∨ i = a2) ∧ (s3 = 0 ∨ s3 = 1 ∧ s2 = 2))
    (hend : ∀ a w, Inv 2 2 2 a w → AnyZ P md ops Q S z n (threeL L b1 a1 b2 a2 b3 a3 2 2 2) a w) :
    ∀ (m s1 s2 s3 : Nat) (a : Act) (w : World), s1 ≤ 2 → s2 ≤ 2 → s3 ≤ 2 → (s2 = 2 → s1 = 2) → (s3 = 2 → s2 = 2) → m + s1 + s2 + s3 = 6 → Inv s1 s2 s3 a w → AnyZ P md ops Q S z (n + m) (threeL L b1 a1 b2 a2 b3 a3 s1 s2 s3) a w
  | 0, s1, s2, s3, a, w, h1, h2, h3, _, _, hm, hi => by
    obtain rfl : s1 = 2 := by omega
    obtain rfl : s2 = 2 := by omega
    obtain rfl : s3 = 2 := by omega
    exact hend a w hi
  | m + 1, s1, s2, s3, a, w, h1, h2, h3, h4, h5, hm, hi => by
    have hr := hready s1 s2 s3 h1 h2 h3 h4 h5 (by omega)
    refine ⟨fun h0 => ?_, fun i hI => ?_⟩
    · exfalso
      rw [hr] at h0
      unfold threeR at h0
      have e1 : s1 = 2 := by
        apply Classical.byContradiction; intro hc
        by_cases c0 : s1 = 0
        · simp [c0] at h0
        · simp [show s1 = 1 by omega] at h0
      have e2 : s2 = 2 := by
        apply Classical.byContradiction; intro hc
        by_cases c0 : s2 = 0
        · simp [c0, e1] at h0
        · simp [show s2 = 1 by omega, e1] at h0
      have e3 : s3 = 2 := by
        apply Classical.byContradiction; intro hc
        by_cases c0 : s3 = 0
        · simp [c0, e1, e2] at h0
        · simp [show s3 = 1 by omega, e1, e2] at h0
      omega
    · rw [hr] at hI
      refine wpOp_mono (fun a' w' hp => ⟨fun _ => hp.1, ?_⟩) (hop i s1 s2 s3 a w h1 h2 h3 h4 h5 hI hi)
      have hq := hp.2
      rw [hset i s1 s2 s3 h1 h2 h3 hI]
      rcases hin i s1 s2 s3 hI with ⟨c1, c2⟩ | ⟨c1, c2, c3⟩ | ⟨c1, c2, c3⟩
      · rw [if_pos c2] at hq ⊢
        exact AnyZ.three Inv hready hset hop hin hend m (s1 + 1) s2 s3 a' w' (by omega) h2 h3 (by omega) h5 (by omega) hq
      · rw [if_neg c1, if_pos c2] at hq ⊢
        exact AnyZ.three Inv hready hset hop hin hend m s1 (s2 + 1) s3 a' w' h1 (by omega) h3 (by omega) (by omega) (by omega) hq
      · rw [if_neg c1, if_neg c2] at hq ⊢
        exact AnyZ.three Inv hready hset hop hin hend m s1 s2 (s3 + 1) a' w' h1 h2 (by omega) h4 (by omega) (by omega) hq
theorem AnyZ.three0 {b1 a1 b2 a2 b3 a3 n : Nat} {L : Array Bool} (Inv : Nat → Nat → Nat → Act → World → Prop)
    (hready : ∀ s1 s2 s3, s1 ≤ 2 → s2 ≤ 2 → s3 ≤ 2 → (s2 = 2 → s1 = 2) → (s3 = 2 → s2 = 2) → ¬ (s1 = 2 ∧ s2 = 2 ∧ s3 = 2) → Region.ready md ops (threeL L b1 a1 b2 a2 b3 a3 s1 s2 s3) = threeR b1 a1 b2 a2 b3 a3 s1 s2 s3)
    (hset : ∀ i s1 s2 s3, s1 ≤ 2 → s2 ≤ 2 → s3 ≤ 2 → i ∈ threeR b1 a1 b2 a2 b3 a3 s1 s2 s3 → (threeL L b1 a1 b2 a2 b3 a3 s1 s2 s3).setIfInBounds i true =
      (if i = b1 ∨ i = a1 then threeL L b1 a1 b2 a2 b3 a3 (s1 + 1) s2 s3 else if i = b2 ∨ i = a2 then threeL L b1 a1 b2 a2 b3 a3 s1 (s2 + 1) s3 else threeL L b1 a1 b2 a2 b3 a3 s1 s2 (s3 + 1)))
    (hop : ∀ i s1 s2 s3 a w, s1 ≤ 2 → s2 ≤ 2 → s3 ≤ 2 → (s2 = 2 → s1 = 2) → (s3 = 2 → s2 = 2) → i ∈ threeR b1 a1 b2 a2 b3 a3 s1 s2 s3 → Inv s1 s2 s3 a w →
      wpOp P ops Q i (fun a' w' => S w' ∧ (if i = b1 ∨ i = a1 then Inv (s1 + 1) s2 s3 a' w' else if i = b2 ∨ i = a2 then Inv s1 (s2 + 1) s3 a' w' else Inv s1 s2 (s3 + 1) a' w')) a w)
    (hin : ∀ i s1 s2 s3, i ∈ threeR b1 a1 b2 a2 b3 a3 s1 s2 s3 → (i = b1 ∧ s1 = 0 ∨ i = a1 ∧ s1 = 1) ∧ (i = b1 ∨ i = a1) ∨ ¬ (i = b1 ∨ i = a1) ∧ (i = b2 ∨ i = a2) ∧ (s2 = 0 ∨ s2 = 1 ∧ s1 = 2) ∨ ¬ (i = b1 ∨ i = a1) ∧ ¬ (i = b2 ∨ i = a2) ∧ (s3 = 0 ∨ s3 = 1 ∧ s2 = 2))
    (hend : ∀ a w, Inv 2 2 2 a w → AnyZ P md ops Q S z n (threeL L b1 a1 b2 a2 b3 a3 2 2 2) a w) {a : Act} {w : World} (hi : Inv 0 0 0 a w) : AnyZ P md ops Q S z (n + 6) L a w :=
  AnyZ.three Inv hready hset hop hin hend 6 0 0 0 a w (by omega) (by omega) (by omega) (by omega) (by omega) (by omega) hi
theorem threeL_zero (L : Array Bool) (b1 a1 b2 a2 b3 a3 : Nat) : threeL L b1 a1 b2 a2 b3 a3 0 0 0 = L := rfl
theorem put_same (a : Act) (i : Nat) (u : Value) : a.put (some i) (a.tmps.getD i u) = a := by
  obtain ⟨t, p⟩ := a
  simp only [Act.put]
  congr 1
  apply Array.ext
  · simp
  · intro j h1 h2
    rw [Array.getElem_setIfInBounds (by simpa using h1)]
    split
    · rename_i e; subst e; simp [Array.getD, h2]
    · rfl
theorem gen_act {n : Nat} {L : Array Bool} {a : Act} {w : World} (h : ∀ b, b = a → AnyZ P md ops Q S z n L b w) : AnyZ P md ops Q S z n L a w := h a rfl
end
end Go.Proofs.Ytajadgpkmommmaa
namespace Go.Proofs.Ytajadgpkmommmaa
open Go.RowKit
theorem three_in : ∀ i s1 s2 s3, i ∈ threeR 4 5 10 11 16 17 s1 s2 s3 → (i = 4 ∧ s1 = 0 ∨ i = 5 ∧ s1 = 1) ∧ (i = 4 ∨ i = 5) ∨ ¬ (i = 4 ∨ i = 5) ∧ (i = 10 ∨ i = 11) ∧ (s2 = 0 ∨ s2 = 1 ∧ s1 = 2) ∨ ¬ (i = 4 ∨ i = 5) ∧ ¬ (i = 10 ∨ i = 11) ∧ (s3 = 0 ∨ s3 = 1 ∧ s2 = 2) := by
  intro i s1 s2 s3 hI
  unfold threeR at hI
  simp only [List.mem_append] at hI
  rcases hI with (hI | hI) | hI <;> (split at hI) <;> (try split at hI) <;> simp at hI <;> omega
theorem three_in2 {i s1 s2 s3 : Nat} (hI : i ∈ threeR 4 5 10 11 16 17 s1 s2 s3) : (i = 4 ∧ s1 = 0) ∨ (i = 5 ∧ s1 = 1) ∨ (i = 10 ∧ s2 = 0) ∨ (i = 11 ∧ s2 = 1 ∧ s1 = 2) ∨ (i = 16 ∧ s3 = 0) ∨ (i = 17 ∧ s3 = 1 ∧ s1 = 2 ∧ s2 = 2) := by
  unfold threeR at hI
  simp only [List.mem_append] at hI
  rcases hI with (hI | hI) | hI <;> (split at hI) <;> (try split at hI) <;> simp at hI <;> omega
theorem three_cases {p : Nat → Nat → Nat → Prop} (h000 : p 0 0 0) (h001 : p 0 0 1) (h010 : p 0 1 0) (h011 : p 0 1 1) (h100 : p 1 0 0) (h101 : p 1 0 1) (h110 : p 1 1 0) (h111 : p 1 1 1) (h200 : p 2 0 0) (h201 : p 2 0 1) (h210 : p 2 1 0) (h211 : p 2 1 1) (h220 : p 2 2 0) (h221 : p 2 2 1) :
    ∀ s1 s2 s3, s1 ≤ 2 → s2 ≤ 2 → s3 ≤ 2 → (s2 = 2 → s1 = 2) → (s3 = 2 → s2 = 2) → ¬ (s1 = 2 ∧ s2 = 2 ∧ s3 = 2) → p s1 s2 s3 := by
  intro s1 s2 s3 h1 h2 h3 h4 h5 h6
  obtain rfl | rfl | rfl : s1 = 0 ∨ s1 = 1 ∨ s1 = 2 := by omega
  all_goals (obtain rfl | rfl | rfl : s2 = 0 ∨ s2 = 1 ∨ s2 = 2 := by omega)
  all_goals (obtain rfl | rfl | rfl : s3 = 0 ∨ s3 = 1 ∨ s3 = 2 := by omega)
  all_goals first | assumption | (exfalso; omega)
theorem three_set20 : ∀ i s1 s2 s3, s1 ≤ 2 → s2 ≤ 2 → s3 ≤ 2 → i ∈ threeR 4 5 10 11 16 17 s1 s2 s3 → (threeL (((((((((((((Array.replicate 27 false).setIfInBounds 0 true).setIfInBounds 1 true).setIfInBounds 2 true).setIfInBounds 3 true).setIfInBounds 6 true).setIfInBounds 7 true).setIfInBounds 8 true).setIfInBounds 9 true).setIfInBounds 12 true).setIfInBounds 13 true).setIfInBounds 14 true).setIfInBounds 15 true) 4 5 10 11 16 17 s1 s2 s3).setIfInBounds i true =
      (if i = 4 ∨ i = 5 then threeL (((((((((((((Array.replicate 27 false).setIfInBounds 0 true).setIfInBounds 1 true).setIfInBounds 2 true).setIfInBounds 3 true).setIfInBounds 6 true).setIfInBounds 7 true).setIfInBounds 8 true).setIfInBounds 9 true).setIfInBounds 12 true).setIfInBounds 13 true).setIfInBounds 14 true).setIfInBounds 15 true) 4 5 10 11 16 17 (s1 + 1) s2 s3 else if i = 10 ∨ i = 11 then threeL (((((((((((((Array.replicate 27 false).setIfInBounds 0 true).setIfInBounds 1 true).setIfInBounds 2 true).setIfInBounds 3 true).setIfInBounds 6 true).setIfInBounds 7 true).setIfInBounds 8 true).setIfInBounds 9 true).setIfInBounds 12 true).setIfInBounds 13 true).setIfInBounds 14 true).setIfInBounds 15 true) 4 5 10 11 16 17 s1 (s2 + 1) s3 else threeL (((((((((((((Array.replicate 27 false).setIfInBounds 0 true).setIfInBounds 1 true).setIfInBounds 2 true).setIfInBounds 3 true).setIfInBounds 6 true).setIfInBounds 7 true).setIfInBounds 8 true).setIfInBounds 9 true).setIfInBounds 12 true).setIfInBounds 13 true).setIfInBounds 14 true).setIfInBounds 15 true) 4 5 10 11 16 17 s1 s2 (s3 + 1)) := by
  intro i s1 s2 s3 h1 h2 h3 hI
  obtain rfl | rfl | rfl : s1 = 0 ∨ s1 = 1 ∨ s1 = 2 := by omega
  all_goals (obtain rfl | rfl | rfl : s2 = 0 ∨ s2 = 1 ∨ s2 = 2 := by omega)
  all_goals (obtain rfl | rfl | rfl : s3 = 0 ∨ s3 = 1 ∨ s3 = 2 := by omega)
  all_goals (simp [threeR] at hI)
  all_goals first | (subst hI; kernel_rfl) | (rcases hI with rfl | rfl <;> kernel_rfl) | (rcases hI with rfl | rfl | rfl <;> kernel_rfl)
theorem wanted_step {o : Oper} {y : Nat → Option Bool} {A B : Prop} (hgd : o.guard = none) (h : A) : if Region.wanted o y = true then A else B := by
  rw [if_pos (by simp [Region.wanted, hgd])]
  exact h
theorem app_int {o : Oper} {a : Act} {K : Act → World → Prop} {Q : Exit → Act → World → Prop} {s x : Operand} {i : TypeInfo} {v : Value} {xs : List Int} {p B : Nat} {y : Int} {w : World} (ho : o.op = .call { callee := .builtin .append, args := #[s, x], argTypes := #[22, 22] })
    (hi : Try.prog.info? 3 = some i) (hz : i.zero = some (.int .i64 0)) (hsize : i.size = 1) (hby : i.bytes = 8) (hs : a.eval s = v) (hx : a.eval x = .slice (some ⟨p, 0, none⟩) 1 1) (hown : Own w B 3 1 e64 v xs)
    (hr : At w 1 e64 (some ⟨p, 0, none⟩) 1 1 [y]) (h63 : xs.length + 1 ≤ maxLen) (hbytes : (xs.length + 1) * 8 ≤ 140737488355328) (hbase : B ≤ w.heap.size)
    (h : ∀ v' w', Own w' B 3 1 e64 v' (xs ++ [y]) → w.grownBy w' v.ownBlock → (v'.ownBlock = v.ownBlock ∨ v'.ownBlock = some w.heap.size) → K (a.put o.dst v') w') : Oper.wp Try.prog o a w K Q :=
  wp_append_at w s x 22 ho B 3 i _ 8 Try.underlying22 hi hz hsize hby rfl Nat.one_pos len_e64 one_e64 v xs hs hown (some ⟨p, 0, none⟩) 1 1 [y] hx hr h63 hbytes hbase (fun v' w' h1 h2 _ h3 => h v' w' h1 h2 h3)
theorem AnyZ.takeD {P : Program} {ops : Array Oper} {Q : Exit → Act → World → Prop} {md : Region.Mode} {S : World → Prop} {z : Nat} {i d : Nat} {oi oz : Oper} {v : Value} {n : Nat} {L : Array Bool} {a : Act} {w : World} (hi : ops[i]? = some oi) (hd : oi.dst = some d) (hz : ops[z]? = some oz)
    (hzi : (oz.after.any fun e => Region.binds md e && e.on == i) = true) (hne : (z == i) = false) (hs : Region.noSelect ops = true) (hf : Region.free md ops L i = true) (hr : (Region.ready md ops L).contains i = true) (hLz : L.getD z true = false)
    (hQ : ∀ c a w, Q (.panic c) (a.put oi.dst v) w → Q (.panic c) a w) (hy : YieldsIf P ops S oi v a) (hS : S w)
    (h : AnyZ P md ops Q S z n (L.setIfInBounds i true) (a.put (some d) v) w) : AnyZ P md ops Q S z (n + 1) L a w :=
  AnyZ.take hi hz hzi hne hs hf hr hLz hQ hy hS (by rw [hd]; exact h)
theorem AnyZ.takePD {P : Program} {ops : Array Oper} {Q : Exit → Act → World → Prop} {md : Region.Mode} {S : World → Prop} {z : Nat} {i d : Nat} {oi : Oper} {v : Value} {n : Nat} {L : Array Bool} {a : Act} {w : World} (hi : ops[i]? = some oi) (hd : oi.dst = some d)
    (hne : (z == i) = false) (hs : Region.noSelect ops = true) (hf : Region.free md ops L i = true) (hr : (Region.ready md ops L).contains i = true)
    (hQ : ∀ c a w, Q (.panic c) (a.put oi.dst v) w → Q (.panic c) a w) (hy : YieldsIf P ops (fun _ => True) oi v a) (hS : S w)
    (h : AnyZ P md ops Q S z n (L.setIfInBounds i true) (a.put (some d) v) w) : AnyZ P md ops Q S z (n + 1) L a w :=
  AnyZ.takeP hi hne hs hf hr hQ hy hS (by rw [hd]; exact h)
theorem AnyZ.three6 {P : Program} {ops : Array Oper} {Q : Exit → Act → World → Prop} {md : Region.Mode} {S : World → Prop} {z n : Nat} {L : Array Bool} (Inv : Nat → Nat → Nat → Act → World → Prop)
    (hready : ∀ s1 s2 s3, s1 ≤ 2 → s2 ≤ 2 → s3 ≤ 2 → (s2 = 2 → s1 = 2) → (s3 = 2 → s2 = 2) → ¬ (s1 = 2 ∧ s2 = 2 ∧ s3 = 2) → Region.ready md ops (threeL L 4 5 10 11 16 17 s1 s2 s3) = threeR 4 5 10 11 16 17 s1 s2 s3)
    (hset : ∀ i s1 s2 s3, s1 ≤ 2 → s2 ≤ 2 → s3 ≤ 2 → i ∈ threeR 4 5 10 11 16 17 s1 s2 s3 → (threeL L 4 5 10 11 16 17 s1 s2 s3).setIfInBounds i true =
      (if i = 4 ∨ i = 5 then threeL L 4 5 10 11 16 17 (s1 + 1) s2 s3 else if i = 10 ∨ i = 11 then threeL L 4 5 10 11 16 17 s1 (s2 + 1) s3 else threeL L 4 5 10 11 16 17 s1 s2 (s3 + 1)))
    (o4 : ∀ s2 s3 a w, Inv 0 s2 s3 a w → wpOp P ops Q 4 (fun a' w' => S w' ∧ Inv 1 s2 s3 a' w') a w)
    (o5 : ∀ s2 s3 a w, Inv 1 s2 s3 a w → wpOp P ops Q 5 (fun a' w' => S w' ∧ Inv 2 s2 s3 a' w') a w)
    (o10 : ∀ s1 s3 a w, Inv s1 0 s3 a w → wpOp P ops Q 10 (fun a' w' => S w' ∧ Inv s1 1 s3 a' w') a w)
    (o11 : ∀ s3 a w, Inv 2 1 s3 a w → wpOp P ops Q 11 (fun a' w' => S w' ∧ Inv 2 2 s3 a' w') a w)
    (o16 : ∀ s1 s2 a w, Inv s1 s2 0 a w → wpOp P ops Q 16 (fun a' w' => S w' ∧ Inv s1 s2 1 a' w') a w)
    (o17 : ∀ a w, Inv 2 2 1 a w → wpOp P ops Q 17 (fun a' w' => S w' ∧ Inv 2 2 2 a' w') a w)
    (hend : ∀ a w, Inv 2 2 2 a w → AnyZ P md ops Q S z n (threeL L 4 5 10 11 16 17 2 2 2) a w) {a : Act} {w : World} (hi : Inv 0 0 0 a w) : AnyZ P md ops Q S z (n + 6) L a w := by
  refine AnyZ.three0 Inv hready hset ?_ three_in hend hi
  intro i s1 s2 s3 a w h1 h2 h3 h4 h5 hI hInv
  rcases three_in2 hI with ⟨rfl, rfl⟩ | ⟨rfl, rfl⟩ | ⟨rfl, rfl⟩ | ⟨rfl, rfl, rfl⟩ | ⟨rfl, rfl⟩ | ⟨rfl, rfl, rfl, rfl⟩
  · exact o4 _ _ _ _ hInv
  · exact o5 _ _ _ _ hInv
  · exact o10 _ _ _ _ hInv
  · exact o11 _ _ _ hInv
  · exact o16 _ _ _ _ hInv
  · exact o17 _ _ hInv
/-- What is made, is there: stays so. -/
theorem made_ext {W W' : World} {N : Nat} {B : Value} {x : Int} {s : Nat} (h : s = 1 → ∃ p, B = .slice (some ⟨p, 0, none⟩) 1 1 ∧ At W 1 e64 (some ⟨p, 0, none⟩) 1 1 [x] ∧ N ≤ p) (he : Ext W W') :
    s = 1 → ∃ p, B = .slice (some ⟨p, 0, none⟩) 1 1 ∧ At W' 1 e64 (some ⟨p, 0, none⟩) 1 1 [x] ∧ N ≤ p := fun e => by
  obtain ⟨p, h1, h2, h3⟩ := h e
  exact ⟨p, h1, h2.ext he, h3⟩
theorem made_gr {W W' : World} {N : Nat} {B : Value} {x : Int} {s : Nat} {row : Option Nat} (h : s = 1 → ∃ p, B = .slice (some ⟨p, 0, none⟩) 1 1 ∧ At W 1 e64 (some ⟨p, 0, none⟩) 1 1 [x] ∧ N ≤ p) (g : W.grownBy W' row) (hr : ∀ b, row = some b → b < N) :
    s = 1 → ∃ p, B = .slice (some ⟨p, 0, none⟩) 1 1 ∧ At W' 1 e64 (some ⟨p, 0, none⟩) 1 1 [x] ∧ N ≤ p := fun e => by
  obtain ⟨p, h1, h2, h3⟩ := h e
  exact ⟨p, h1, h2.gr g (fun e2 => by have := hr p e2.symm; omega), h3⟩
section
variable {lA : Option Addr} {ln lc : Nat} {sA : Option Addr} {sn sc : Nat} {qA : Option Addr} {qn qc : Nat} {d0 s0 r0 f0 i0 k0 l0 t0 lo0 hi0 a0 x0 y0 z0 gw gb : Int} {v1 v2 v3 st ld : Value} {x1 : WaT} {F : FoT} {rn a t : Int} {w W : World} {N s1 s2 s3 : Nat} {B1 A1 B2 A2 B3 A3 : Value}
end
end Go.Proofs.Ytajadgpkmommmaa
namespace Go.Proofs.Ytajadgpkmommmaa
open Go.RowKit

theorem Try.infoHaul : (Try.prog.info? 84).map (fun i => (i.zero, i.size, i.bytes)) = some (some (.agg #[.int .i64 0, .int .i64 0]), 2, 16) := by kernel_rfl
/-- What the appends read. -/
def ApS (g : Nat) (c1 c2 c3 : Value) (W : World) : Prop := W.cell? ⟨g, 0, none⟩ = some c1 ∧ W.cell? ⟨g, 1, none⟩ = some c2 ∧ W.cell? ⟨g, 2, none⟩ = some c3
theorem ApS.ext {g : Nat} {c1 c2 c3 : Value} {w w' : World} (h : ApS g c1 c2 c3 w) (he : Ext w w') : ApS g c1 c2 c3 w' := ⟨he.cell h.1, he.cell h.2.1, he.cell h.2.2⟩
theorem passR_zero : passR 0 WaT.zero = WaT.zero := rfl
section
variable {lA : Option Addr} {ln lc : Nat} {sA : Option Addr} {sn sc : Nat} {qA : Option Addr} {qn qc : Nat} {d0 s0 r0 f0 i0 k0 l0 t0 lo0 hi0 a0 x0 y0 z0 gw gb : Int} {L : List Int} {S : List (List Int)} {Q : List Int} {C : List Int} {av : Int → Int → Int} {w : World} {cA : Option Addr} {cn cc : Nat} {tA : Option Addr} {tn tc : Nat}
end
section
variable {lA : Option Addr} {ln lc : Nat} {sA : Option Addr} {sn sc : Nat} {qA : Option Addr} {qn qc : Nat} {d0 s0 r0 f0 i0 k0 l0 t0 lo0 hi0 a0 x0 y0 z0 gw gb : Int} {L : List Int} {S : List (List Int)} {Q : List Int} {C : List Int} {av : Int → Int → Int} {w : World} {cA : Option Addr} {cn cc : Nat} {tA : Option Addr} {tn tc : Nat}
end
end Go.Proofs.Ytajadgpkmommmaa
