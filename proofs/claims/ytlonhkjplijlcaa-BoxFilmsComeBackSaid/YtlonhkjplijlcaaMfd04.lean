/- Several texts in one: Taking an operation of a drawn region first, its slot told. Conditions: as stated; Words for stores into an owned row of one-cell elements. No condition. -/
import Derived.Test.YtlonhkjplijlcaaMfd03
import Derived.Test.YtlonhkjplijlcaaMfd00
namespace Go.Proofs.Ytlonhkjplijlcaa
open Go.RowKit
theorem AnyZ.takeE {P : Program} {ops : Array Oper} {Q : Exit → Act → World → Prop} {md : Region.Mode} {S : World → Prop} {z : Nat} {i d : Nat} {oi oz : Oper} {v : Value} {n : Nat} {L : Array Bool} {a : Act} {w : World} (hi : ops[i]? = some oi) (hd : oi.dst = some d) (hz : ops[z]? = some oz)
    (hzi : (oz.after.any fun e => Region.binds md e && e.on == i) = true) (hne : (z == i) = false) (hs : Region.noSelect ops = true) (hf : Region.free md ops L i = true) (hr : (Region.ready md ops L).contains i = true) (hLz : L.getD z true = false)
    (hQ : ∀ c a w, Q (.panic c) (a.put oi.dst v) w → Q (.panic c) a w) (hy : YieldsIf P ops S oi v a) (hS : S w)
    (h : AnyZ P md ops Q S z n (L.setIfInBounds i true) (a.put (some d) v) w) : AnyZ P md ops Q S z (n + 1) L a w :=
  AnyZ.take hi hz hzi hne hs hf hr hLz hQ hy hS (by rw [hd]; exact h)
theorem AnyZ.takePE {P : Program} {ops : Array Oper} {Q : Exit → Act → World → Prop} {md : Region.Mode} {S : World → Prop} {z : Nat} {i d : Nat} {oi : Oper} {v : Value} {n : Nat} {L : Array Bool} {a : Act} {w : World} (hi : ops[i]? = some oi) (hd : oi.dst = some d)
    (hne : (z == i) = false) (hs : Region.noSelect ops = true) (hf : Region.free md ops L i = true) (hr : (Region.ready md ops L).contains i = true)
    (hQ : ∀ c a w, Q (.panic c) (a.put oi.dst v) w → Q (.panic c) a w) (hy : YieldsIf P ops (fun _ => True) oi v a) (hS : S w)
    (h : AnyZ P md ops Q S z n (L.setIfInBounds i true) (a.put (some d) v) w) : AnyZ P md ops Q S z (n + 1) L a w :=
  AnyZ.takeP hi hne hs hf hr hQ hy hS (by rw [hd]; exact h)
theorem AnyZ.takeZE {P : Program} {ops : Array Oper} {Q : Exit → Act → World → Prop} {md : Region.Mode} {S : World → Prop} {z : Nat} {i d : Nat} {oi : Oper} {v : Value} {n : Nat} {L : Array Bool} {a : Act} {w : World} (hi : ops[i]? = some oi) (hd : oi.dst = some d)
    (hne : (z == i) = false) (hs : Region.noSelect ops = true) (hf : Region.free md ops L i = true) (hr : (Region.ready md ops L).contains i = true) (hLz : L.getD z true = true)
    (hQ : ∀ c a w, Q (.panic c) (a.put oi.dst v) w → Q (.panic c) a w) (hy : YieldsIf P ops (fun _ => True) oi v a)
    (h : AnyZ P md ops Q S z n (L.setIfInBounds i true) (a.put (some d) v) w) : AnyZ P md ops Q S z (n + 1) L a w :=
  AnyZ.firstP hi (by simpa using hne) (Region.noSelect_spec hs) hQ n L a w (Region.free_spec hi hf) (by simpa using hr) hy (fun h0 => by rw [hLz] at h0; cases h0) (by rw [hd]; exact h)
theorem Own.where_ {α : Type} {w : World} {base : Nat} {t : TypeId} {sz : Nat} {enc : α → List Value} {A : Option Addr} {n c : Nat} {xs : List α} (h : Own w base t sz enc (.slice A n c) xs) (hn : 0 < n) (hl : xs.length = n) :
    ∃ g, A = some ⟨g, 0, none⟩ ∧ base ≤ g ∧ g < w.heap.size := by
  unfold Own at h
  rw [hl] at h
  obtain ⟨g, cap, hv, hb, hg⟩ := World.ownsRow.form h hn
  injection hv with h1 h2 h3
  exact ⟨g, h1, hb, hg⟩
theorem Own.row1 {α : Type} {w : World} {base : Nat} {t : TypeId} {enc : α → List Value} {g n c : Nat} {xs : List α} (h : Own w base t 1 enc (.slice (some ⟨g, 0, none⟩) n c) xs) :
    ∃ cur, Blk w g t cur ∧ n ≤ c ∧ c ≤ maxLen ∧ cur.size = c ∧ xs.length = n ∧ cur.toList.take n = xs.flatMap enc ∧ base ≤ g := by
  obtain ⟨h0, h⟩ := h
  rcases h with ⟨hv, _⟩ | ⟨g', cap, cur, hv, hb, hg, hnc, hcm, hcs, ht⟩
  · cases hv
  · injection hv with h1 h2 h3
    injection h1 with h1
    injection h1 with h1
    subst h1 h3
    exact ⟨cur, hg, by omega, hcm, by omega, h2.symm, by rw [h2]; rw [← ht, Nat.mul_one], hb⟩
theorem Own.frozen1 {α : Type} {w : World} {base : Nat} {t : TypeId} {enc : α → List Value} {g n c : Nat} {xs : List α} (h : Own w base t 1 enc (.slice (some ⟨g, 0, none⟩) n c) xs) (i : Nat) : w.frozen? ⟨g, i, none⟩ = false := by
  obtain ⟨cur, hg, _⟩ := h.row1
  exact hg.frozen i
theorem flat_set {α : Type} {enc : α → List Value} (hsz : ∀ x, (enc x).length = 1) : ∀ (xs : List α) (k : Nat) (x : α) (u : Value), enc x = [u] → (xs.flatMap enc).set k u = (xs.set k x).flatMap enc
  | [], _, _, _, _ => rfl
  | y :: ys, 0, x, u, hu => by
    have hy := hsz y
    rw [List.set_cons_zero, List.flatMap_cons, List.flatMap_cons, hu]
    match h : enc y, hy with
    | [v], _ => rfl
  | y :: ys, k + 1, x, u, hu => by
    have hy := hsz y
    rw [List.set_cons_succ, List.flatMap_cons, List.flatMap_cons, ← flat_set hsz ys k x u hu]
    match h : enc y, hy with
    | [v], _ => rfl
theorem Own.set1 {α : Type} {w : World} {base : Nat} {t : TypeId} {enc : α → List Value} {g n c : Nat} {xs : List α} (hsz : ∀ x, (enc x).length = 1) (h : Own w base t 1 enc (.slice (some ⟨g, 0, none⟩) n c) xs) (k : Nat) (x : α) (u : Value) (hu : enc x = [u]) :
    Own (w.setCell ⟨g, k, none⟩ u) base t 1 enc (.slice (some ⟨g, 0, none⟩) n c) (xs.set k x) := by
  obtain ⟨cur, hg, hnc, hcm, hcs, hl, ht, hb⟩ := h.row1
  refine ⟨by rw [flat_len hsz], .inr ⟨g, c, _, by rw [List.length_set, hl], hb, hg.set_ k u, by rw [List.length_set, hl]; exact hnc, hcm, by simp [hcs], ?_⟩⟩
  rw [List.length_set, hl, Nat.mul_one, Array.toList_setIfInBounds, List.take_set, ht]
  exact flat_set hsz xs k x u hu
end Go.Proofs.Ytlonhkjplijlcaa
