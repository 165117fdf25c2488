/- Several texts in one: The memory of compact: a table, its rows, one lemma a step. Conditions as stated; Walk: CheckSamples (reference). Conditions as stated. -/
import Derived.Test.YtkbmgakehlmcnaaMtq23
import Derived.Test.YtkbmgakehlmcnaaMtq24
import Derived.Test.YtkbmgakehlmcnaaMtq01
namespace Go.Proofs.Ytkbmgakehlmcnaa
open Go.RowKit
def ApartB (l : List (Option Nat)) : Prop := ∀ i j, i ≠ j → ∀ b, l.getD i none = some b → l.getD j none ≠ some b
theorem ApartB.set {l : List (Option Nat)} {N i : Nat} {v : Option Nat} (h : ApartB l) (hl : ∀ i b, l.getD i none = some b → b < N) (hv : v = l.getD i none ∨ ∃ b, v = some b ∧ N ≤ b) : ApartB (l.set i v) := by
  intro p q hpq b hp hq
  have key : ∀ k, (l.set i v).getD k none = if k = i ∧ i < l.length then v else l.getD k none := by
    intro k
    simp only [List.getD, List.getElem?_set]
    by_cases hk : i = k
    · subst hk
      by_cases h2 : i < l.length
      · simp [h2]
      · simp [h2]
    · rw [if_neg hk, if_neg (fun h => hk h.1.symm)]
  rw [key] at hp hq
  by_cases h1 : p = i ∧ i < l.length
  · rw [if_pos h1] at hp
    by_cases h2 : q = i ∧ i < l.length
    · exact hpq (h1.1.trans h2.1.symm)
    · rw [if_neg h2] at hq
      rcases hv with hv | ⟨c, hc, hN⟩
      · exact h p q hpq b (by rw [h1.1, ← hv]; exact hp) hq
      · have := hl q b hq
        rw [hc] at hp; injection hp with hp; omega
  · rw [if_neg h1] at hp
    by_cases h2 : q = i ∧ i < l.length
    · rw [if_pos h2] at hq
      rcases hv with hv | ⟨c, hc, hN⟩
      · exact h p q hpq b hp (by rw [h2.1, ← hv]; exact hq)
      · have := hl p b hp
        rw [hc] at hq; injection hq with hq; omega
    · rw [if_neg h2] at hq
      exact h p q hpq b hp hq
theorem grw_new {w w' : World} {v v' : Value} (g : Grw w w' v v') : v'.ownBlock = v.ownBlock ∨ ∃ b, v'.ownBlock = some b ∧ w.heap.size ≤ b := by
  rcases g.row with h | ⟨b, h1, h2⟩
  · exact .inl h
  · exact .inr ⟨b, h1, h2⟩
structure CmI (w0 W : World) (gf : Nat) (cs : Array Value) (vs vh vz vk : Value) (S H : List (Int × Int)) (Z K : List Int) (x : Option Nat) (xs : Array Value) : Prop where
  gl : gf < w0.heap.size
  tab : Blk W gf 82 cs
  s : Own W w0.heap.size 128 2 e2 vs S
  h : Own W w0.heap.size 128 2 e2 vh H
  z : Own W w0.heap.size 3 1 e64 vz Z
  k : Own W w0.heap.size 3 1 e64 vk K
  ap : ApartB [vs.ownBlock, vh.ownBlock, vz.ownBlock, vk.ownBlock, x]
  box : ∀ b, x = some b → Blk W b 44 xs ∧ w0.heap.size ≤ b
  tw : Tw w0 W gf none
section
variable {w0 W W' : World} {gf : Nat} {cs : Array Value} {vs vh vz vk : Value} {S H : List (Int × Int)} {Z K : List Int} {x : Option Nat} {xs : Array Value}
theorem CmI.ext' (h : CmI w0 W gf cs vs vh vz vk S H Z K x xs) (he : Ext W W') : CmI w0 W' gf cs vs vh vz vk S H Z K x xs :=
  ⟨h.gl, h.tab.ext he, h.s.ext he, h.h.ext he, h.z.ext he, h.k.ext he, h.ap, fun b hb => ⟨(h.box b hb).1.ext he, (h.box b hb).2⟩, h.tw.trans (Tw.of_ext he _ _)⟩
theorem CmI.lt (h : CmI w0 W gf cs vs vh vz vk S H Z K x xs) : ∀ i b, [vs.ownBlock, vh.ownBlock, vz.ownBlock, vk.ownBlock, x].getD i none = some b → w0.heap.size ≤ b ∧ b < W.heap.size := by
  intro i b hb
  match i, hb with
  | 0, hb => exact h.s.lt b hb
  | 1, hb => exact h.h.lt b hb
  | 2, hb => exact h.z.lt b hb
  | 3, hb => exact h.k.lt b hb
  | 4, hb => exact ⟨(h.box b hb).2, (h.box b hb).1.lt⟩
  | i + 5, hb => simp at hb
theorem CmI.set_ (h : CmI w0 W gf cs vs vh vz vk S H Z K x xs) (i : Nat) (u : Value) : CmI w0 (W.setCell ⟨gf, i, none⟩ u) gf (cs.setIfInBounds i u) vs vh vz vk S H Z K x xs := by
  have hn : ∀ j b, [vs.ownBlock, vh.ownBlock, vz.ownBlock, vk.ownBlock, x].getD j none = some b → some b ≠ some gf := fun j b hb e => by
    injection e with e; have := (h.lt j b hb).1; have := h.gl; omega
  have ht := Tw.set_ W gf i u none
  exact ⟨h.gl, h.tab.set_ i u, h.s.tw ht (fun e => hn 0 _ e rfl) (fun _ _ e => by cases e), h.h.tw ht (fun e => hn 1 _ e rfl) (fun _ _ e => by cases e), h.z.tw ht (fun e => hn 2 _ e rfl) (fun _ _ e => by cases e), h.k.tw ht (fun e => hn 3 _ e rfl) (fun _ _ e => by cases e), h.ap,
    fun b hb => ⟨ht.blk (h.box b hb).1 (fun e => hn 4 b hb (by rw [e])) (by simp), (h.box b hb).2⟩, h.tw.trans ht⟩
theorem CmI.boxed (h : CmI w0 W gf cs vs vh vz vk S H Z K x xs) (ys : Array Value) : CmI w0 (W.alloc (.cells ys 44)) gf cs vs vh vz vk S H Z K (some W.heap.size) ys := by
  have h1 := h.ext' (Ext.alloc W (.cells ys 44))
  exact ⟨h1.gl, h1.tab, h1.s, h1.h, h1.z, h1.k, h.ap.set (N := W.heap.size) (i := 4) (v := some W.heap.size) (fun i b hb => (h.lt i b hb).2) (.inr ⟨_, rfl, Nat.le_refl _⟩),
    fun b hb => by injection hb with hb; subst hb; exact ⟨Blk.new _ _ _, h.tw.size⟩, h1.tw⟩
theorem CmI.row_s (h : CmI w0 W gf cs vs vh vz vk S H Z K x xs) {v' : Value} {L' : List (Int × Int)} (o : Own W' w0.heap.size 128 2 e2 v' L') (g : Grw W W' vs v') : CmI w0 W' gf cs v' vh vz vk L' H Z K x xs := by
  have hg7 : some gf ≠ vs.ownBlock := fun e => by have := (h.lt 0 _ e.symm).1; have := h.gl; omega
  refine ⟨h.gl, h.tab.grown g.grown hg7, o, h.h.kept g.grown (by
    cases hq : vh.ownBlock with
    | none => exact .inl rfl
    | some b => exact .inr (fun e => h.ap 1 0 (by decide) b (by simpa using hq) (by simpa using e.symm))), h.z.kept g.grown (by
    cases hq : vz.ownBlock with
    | none => exact .inl rfl
    | some b => exact .inr (fun e => h.ap 2 0 (by decide) b (by simpa using hq) (by simpa using e.symm))), h.k.kept g.grown (by
    cases hq : vk.ownBlock with
    | none => exact .inl rfl
    | some b => exact .inr (fun e => h.ap 3 0 (by decide) b (by simpa using hq) (by simpa using e.symm))), ?_, fun b hb => ⟨(h.box b hb).1.grown g.grown (fun e => h.ap 4 0 (by decide) b (by simpa using hb) (by simpa using e.symm)), (h.box b hb).2⟩, ?_⟩
  · exact h.ap.set (N := W.heap.size) (i := 0) (v := v'.ownBlock) (fun i b hb => (h.lt i b hb).2) (grw_new g)
  · have q := h.tw
    exact ⟨g.grown.os.trans q.os, g.grown.tape.trans q.tape, g.grown.output.trans q.output, Nat.le_trans q.size g.grown.size, fun p hp h1 h2 => (g.grown.block p (Nat.lt_of_lt_of_le hp q.size) (fun e => by have := (h.lt 0 p e.symm).1; omega)).trans (q.block p hp h1 h2)⟩
theorem CmI.row_h (h : CmI w0 W gf cs vs vh vz vk S H Z K x xs) {v' : Value} {L' : List (Int × Int)} (o : Own W' w0.heap.size 128 2 e2 v' L') (g : Grw W W' vh v') : CmI w0 W' gf cs vs v' vz vk S L' Z K x xs := by
  have hg7 : some gf ≠ vh.ownBlock := fun e => by have := (h.lt 1 _ e.symm).1; have := h.gl; omega
  refine ⟨h.gl, h.tab.grown g.grown hg7, h.s.kept g.grown (by
    cases hq : vs.ownBlock with
    | none => exact .inl rfl
    | some b => exact .inr (fun e => h.ap 0 1 (by decide) b (by simpa using hq) (by simpa using e.symm))), o, h.z.kept g.grown (by
    cases hq : vz.ownBlock with
    | none => exact .inl rfl
    | some b => exact .inr (fun e => h.ap 2 1 (by decide) b (by simpa using hq) (by simpa using e.symm))), h.k.kept g.grown (by
    cases hq : vk.ownBlock with
    | none => exact .inl rfl
    | some b => exact .inr (fun e => h.ap 3 1 (by decide) b (by simpa using hq) (by simpa using e.symm))), ?_, fun b hb => ⟨(h.box b hb).1.grown g.grown (fun e => h.ap 4 1 (by decide) b (by simpa using hb) (by simpa using e.symm)), (h.box b hb).2⟩, ?_⟩
  · exact h.ap.set (N := W.heap.size) (i := 1) (v := v'.ownBlock) (fun i b hb => (h.lt i b hb).2) (grw_new g)
  · have q := h.tw
    exact ⟨g.grown.os.trans q.os, g.grown.tape.trans q.tape, g.grown.output.trans q.output, Nat.le_trans q.size g.grown.size, fun p hp h1 h2 => (g.grown.block p (Nat.lt_of_lt_of_le hp q.size) (fun e => by have := (h.lt 1 p e.symm).1; omega)).trans (q.block p hp h1 h2)⟩
theorem CmI.row_z (h : CmI w0 W gf cs vs vh vz vk S H Z K x xs) {v' : Value} {L' : List Int} (o : Own W' w0.heap.size 3 1 e64 v' L') (g : Grw W W' vz v') : CmI w0 W' gf cs vs vh v' vk S H L' K x xs := by
  have hg7 : some gf ≠ vz.ownBlock := fun e => by have := (h.lt 2 _ e.symm).1; have := h.gl; omega
  refine ⟨h.gl, h.tab.grown g.grown hg7, h.s.kept g.grown (by
    cases hq : vs.ownBlock with
    | none => exact .inl rfl
    | some b => exact .inr (fun e => h.ap 0 2 (by decide) b (by simpa using hq) (by simpa using e.symm))), h.h.kept g.grown (by
    cases hq : vh.ownBlock with
    | none => exact .inl rfl
    | some b => exact .inr (fun e => h.ap 1 2 (by decide) b (by simpa using hq) (by simpa using e.symm))), o, h.k.kept g.grown (by
    cases hq : vk.ownBlock with
    | none => exact .inl rfl
    | some b => exact .inr (fun e => h.ap 3 2 (by decide) b (by simpa using hq) (by simpa using e.symm))), ?_, fun b hb => ⟨(h.box b hb).1.grown g.grown (fun e => h.ap 4 2 (by decide) b (by simpa using hb) (by simpa using e.symm)), (h.box b hb).2⟩, ?_⟩
  · exact h.ap.set (N := W.heap.size) (i := 2) (v := v'.ownBlock) (fun i b hb => (h.lt i b hb).2) (grw_new g)
  · have q := h.tw
    exact ⟨g.grown.os.trans q.os, g.grown.tape.trans q.tape, g.grown.output.trans q.output, Nat.le_trans q.size g.grown.size, fun p hp h1 h2 => (g.grown.block p (Nat.lt_of_lt_of_le hp q.size) (fun e => by have := (h.lt 2 p e.symm).1; omega)).trans (q.block p hp h1 h2)⟩
theorem CmI.row_k (h : CmI w0 W gf cs vs vh vz vk S H Z K x xs) {v' : Value} {L' : List Int} (o : Own W' w0.heap.size 3 1 e64 v' L') (g : Grw W W' vk v') : CmI w0 W' gf cs vs vh vz v' S H Z L' x xs := by
  have hg7 : some gf ≠ vk.ownBlock := fun e => by have := (h.lt 3 _ e.symm).1; have := h.gl; omega
  refine ⟨h.gl, h.tab.grown g.grown hg7, h.s.kept g.grown (by
    cases hq : vs.ownBlock with
    | none => exact .inl rfl
    | some b => exact .inr (fun e => h.ap 0 3 (by decide) b (by simpa using hq) (by simpa using e.symm))), h.h.kept g.grown (by
    cases hq : vh.ownBlock with
    | none => exact .inl rfl
    | some b => exact .inr (fun e => h.ap 1 3 (by decide) b (by simpa using hq) (by simpa using e.symm))), h.z.kept g.grown (by
    cases hq : vz.ownBlock with
    | none => exact .inl rfl
    | some b => exact .inr (fun e => h.ap 2 3 (by decide) b (by simpa using hq) (by simpa using e.symm))), o, ?_, fun b hb => ⟨(h.box b hb).1.grown g.grown (fun e => h.ap 4 3 (by decide) b (by simpa using hb) (by simpa using e.symm)), (h.box b hb).2⟩, ?_⟩
  · exact h.ap.set (N := W.heap.size) (i := 3) (v := v'.ownBlock) (fun i b hb => (h.lt i b hb).2) (grw_new g)
  · have q := h.tw
    exact ⟨g.grown.os.trans q.os, g.grown.tape.trans q.tape, g.grown.output.trans q.output, Nat.le_trans q.size g.grown.size, fun p hp h1 h2 => (g.grown.block p (Nat.lt_of_lt_of_le hp q.size) (fun e => by have := (h.lt 3 p e.symm).1; omega)).trans (q.block p hp h1 h2)⟩
end
section
variable {P : Program} {ops : Array Oper} {Q : Exit → Act → World → Prop} {md : Region.Mode} {S : World → Prop} {z : Nat}
theorem AnyZ.firstC {i : Nat} {oi : Oper} {v : Value} {D : List Nat} (hi : ops[i]? = some oi) (hzD : z ∈ D) (hiD : i ∉ D)
    (hD : ∀ d ∈ D, ∃ od, ops[d]? = some od ∧ ∃ e ∈ od.after, Region.binds md e = true ∧ (e.on = i ∨ e.on ∈ D))
    (hsel : ∀ (j : Nat) (o : Oper) cs b, ops[j]? = some o → o.op ≠ .select cs b)
    (hQ : ∀ c a w, Q (.panic c) (a.put oi.dst v) w → Q (.panic c) a w) :
    ∀ (n : Nat) (L : Array Bool) (a : Act) (w : World),
      (∀ j oj, ops[j]? = some oj → j ≠ i → L.getD j true = false → (∀ e ∈ oj.after, Region.binds md e = true → e.on ≠ i) → oi.apart ops oj = true) →
      i ∈ Region.ready md ops L → (∀ d ∈ D, L.getD d true = false) → YieldsIf P ops S oi v a → S w →
      AnyZ P md ops Q S z n (L.setIfInBounds i true) (a.put oi.dst v) w → AnyZ P md ops Q S z (n + 1) L a w
  | 0, L, a, w, _, hr, _, hy, hS, H => by
    refine ⟨fun h => absurd hr (by simp [h]), fun j hj => ?_⟩
    by_cases hji : j = i
    · subst hji
      exact hy.wpOp hi hS ⟨fun _ => hS, H⟩
    · exact absurd (ready_mono hj hji) (by simp [H.1])
  | n + 1, L, a, w, hf, hr, hL, hy, hS, H => by
    refine ⟨fun h => absurd hr (by simp [h]), fun j hj => ?_⟩
    by_cases hji : j = i
    · subst hji
      exact hy.wpOp hi hS ⟨fun _ => hS, H⟩
    obtain ⟨hu, oj, hoj, hall⟩ := mem_ready.1 hj
    have hopen := (mem_ready.1 hr).1
    have lis : ∀ k, L.getD k true = false → L.getD k false = true → False := fun k h1 h2 => by
      by_cases hs : k < L.size
      · simp [hs] at h1 h2
        rw [h2] at h1
        cases h1
      · simp [hs] at h1
    have hin : ∀ e ∈ oj.after, Region.binds md e = true → e.on ≠ i := fun e he hb hq => by
      have hdone := hall e he hb
      rw [hq] at hdone
      exact lis i hopen hdone
    have hjD : j ∉ D := fun h => by
      obtain ⟨od, hod, e, he, hb, hq⟩ := hD j h
      rw [hod] at hoj
      injection hoj with hoj
      subst hoj
      rcases hq with hq | hq
      · exact hin e he hb hq
      · exact lis _ (hL _ hq) (hall e he hb)
    have hjz : j ≠ z := fun h => hjD (h ▸ hzD)
    have hzi : z ≠ i := fun h => hiD (h ▸ hzD)
    have hLz2 : ((L.setIfInBounds i true).setIfInBounds j true).getD z true = false := by
      rw [getD_set_ne true hjz, getD_set_ne true (Ne.symm hzi)]; exact hL z hzD
    have st := wpOp_putIf hoj (hf j oj hoj hji hu hin) (fun cs b => hsel i oi cs b hi) (fun cs b => hsel j oj cs b hoj) hQ hy (H.2 j (ready_mono hj hji))
    refine wpOp_mono (fun a' w' ⟨hy', hS', hr'⟩ => ?_) st
    have hSw := hS' hLz2
    refine ⟨fun _ => hSw, AnyZ.firstC hi hzD hiD hD hsel hQ n _ a' w' (fun k ok hk hki hun hno => hf k ok hk hki ?_ hno) (ready_mono hr (Ne.symm hji)) (fun d hd => by rw [getD_set_ne true (fun e : j = d => hjD (by rw [e]; exact hd))]; exact hL d hd) hy' hSw ?_⟩
    · by_cases hjk : j = k
      · subst hjk; exact hu
      · rwa [getD_set_ne true hjk] at hun
    · rw [Array.setIfInBounds_comm _ _ hji]
      exact hr'
theorem AnyZ.takeC {i d : Nat} {oi : Oper} {v : Value} {n : Nat} {L : Array Bool} {a : Act} {w : World} (D : List Nat) (hi : ops[i]? = some oi) (hd : oi.dst = some d)
    (hzD : D.contains z = true) (hiD : D.contains i = false) (hD : (D.all fun d => (ops[d]?).any fun od => od.after.any fun e => Region.binds md e && (e.on == i || D.contains e.on)) = true)
    (hs : Region.noSelect ops = true) (hf : Region.free md ops L i = true) (hr : (Region.ready md ops L).contains i = true) (hL : (D.all fun d => !(L.getD d true)) = true)
    (hQ : ∀ c a w, Q (.panic c) (a.put oi.dst v) w → Q (.panic c) a w) (hy : YieldsIf P ops S oi v a) (hS : S w)
    (h : AnyZ P md ops Q S z n (L.setIfInBounds i true) (a.put (some d) v) w) : AnyZ P md ops Q S z (n + 1) L a w :=
  AnyZ.firstC hi (by simpa using hzD) (by simpa using hiD) (fun q hq => by
    have h1 := List.all_eq_true.1 hD q hq
    cases ho : ops[q]? with
    | none => rw [ho] at h1; cases h1
    | some od =>
      rw [ho] at h1
      obtain ⟨e, he, h2⟩ := Array.any_eq_true'.1 (show (od.after.any fun e => Region.binds md e && (e.on == i || D.contains e.on)) = true from h1)
      simp only [Bool.and_eq_true, Bool.or_eq_true, beq_iff_eq, List.contains_iff_mem] at h2
      exact ⟨od, rfl, e, he, h2⟩) (Region.noSelect_spec hs) hQ n L a w (Region.free_spec hi hf) (by simpa using hr) (fun q hq => by simpa using List.all_eq_true.1 hL q hq) hy hS (by rw [hd]; exact h)
end
end Go.Proofs.Ytkbmgakehlmcnaa
