/- The watcher and its rows in memory. Conditions as stated. -/
import Derived.Test.YtfelgolfebhmkaaDoorMtm13
namespace Go.Proofs.YtfelgolfebhmkaaDoor
open Go.RowKit
def Apart (l : List (Option Nat)) : Prop := ∀ i j, i ≠ j → ∀ b, l.getD i none = some b → l.getD j none ≠ some b
theorem Apart.set {l : List (Option Nat)} {N i : Nat} {v : Option Nat} (h : Apart l) (hl : ∀ i b, l.getD i none = some b → b < N) (hv : v = l.getD i none ∨ ∃ b, v = some b ∧ N ≤ b) : Apart (l.set i v) := by
  intro p q hpq b hp hq
  have key : ∀ k, (l.set i v).getD k none = if k = i ∧ i < l.length then v else l.getD k none := by
    intro k
    simp only [List.getD, List.getElem?_set]
    by_cases hk : i = k
    · subst hk
      by_cases h2 : i < l.length
      · simp [h2]
      · simp [h2]
    · rw [if_neg hk, if_neg (fun h => hk h.1.symm)]
  rw [key] at hp hq
  by_cases h1 : p = i ∧ i < l.length
  · rw [if_pos h1] at hp
    by_cases h2 : q = i ∧ i < l.length
    · exact hpq (h1.1.trans h2.1.symm)
    · rw [if_neg h2] at hq
      rcases hv with hv | ⟨c, hc, hN⟩
      · exact h p q hpq b (by rw [h1.1, ← hv]; exact hp) hq
      · have := hl q b hq
        rw [hc] at hp; injection hp with hp; omega
  · rw [if_neg h1] at hp
    by_cases h2 : q = i ∧ i < l.length
    · rw [if_pos h2] at hq
      rcases hv with hv | ⟨c, hc, hN⟩
      · exact h p q hpq b hp (by rw [h2.1, ← hv]; exact hq)
      · have := hl p b hp
        rw [hc] at hq; injection hq with hq; omega
    · rw [if_neg h2] at hq
      exact h p q hpq b hp hq
structure FolA (W : World) (g B : Nat) (lA : Option Addr) (ln lc : Nat) (sA : Option Addr) (sn sc : Nat) (qA : Option Addr) (qn qc : Nat) (d0 s0 r0 f0 i0 k0 l0 t0 lo0 hi0 a0 x0 y0 z0 : Int) (ch asd arr st ld : Value) (f : FoT) : Prop where
  blk : Blk W g 77 #[.slice lA ln lc, .slice sA sn sc, .slice qA qn qc, .int .i64 d0, .int .i64 s0, .int .i64 r0, .int .i64 f0, .int .i64 i0, .int .i64 k0, .int .i64 l0, .int .i64 t0, .int .i64 lo0, .int .i64 hi0, .int .i64 a0, .int .i64 x0, .int .i64 y0, .int .i64 z0, ch, asd, arr, .int .i64 f.w.beg, st, .int .i64 0, ld, .int .i64 f.w.at_, .int .i64 f.w.buf, .bool f.w.plays, .bool f.w.begun, .int .i64 f.w.stalled]
  o1 : Own W B 3 1 e64 ch f.ch
  o2 : Own W B 3 1 e64 asd f.asd
  o3 : Own W B 3 1 e64 arr f.arr
  o4 : Own W B 91 2 e2 st f.w.stalls
  o5 : Own W B 81 2 e2 ld f.loads
  ap : Apart [ch.ownBlock, asd.ownBlock, arr.ownBlock, st.ownBlock, ld.ownBlock]
  gB : g < B
section
variable {lA : Option Addr} {ln lc : Nat} {sA : Option Addr} {sn sc : Nat} {qA : Option Addr} {qn qc : Nat} {d0 s0 r0 f0 i0 k0 l0 t0 lo0 hi0 a0 x0 y0 z0 : Int} {ch asd arr st ld : Value} {f : FoT} {W W' : World} {g B : Nat}
theorem FolA.ext (h : FolA W g B lA ln lc sA sn sc qA qn qc d0 s0 r0 f0 i0 k0 l0 t0 lo0 hi0 a0 x0 y0 z0 ch asd arr st ld f) (he : Ext W W') : FolA W' g B lA ln lc sA sn sc qA qn qc d0 s0 r0 f0 i0 k0 l0 t0 lo0 hi0 a0 x0 y0 z0 ch asd arr st ld f :=
  ⟨h.blk.ext he, h.o1.ext he, h.o2.ext he, h.o3.ext he, h.o4.ext he, h.o5.ext he, h.ap, h.gB⟩
theorem FolA.lt (h : FolA W g B lA ln lc sA sn sc qA qn qc d0 s0 r0 f0 i0 k0 l0 t0 lo0 hi0 a0 x0 y0 z0 ch asd arr st ld f) : ∀ i b, [ch.ownBlock, asd.ownBlock, arr.ownBlock, st.ownBlock, ld.ownBlock].getD i none = some b → B ≤ b ∧ b < W.heap.size := by
  intro i b hb
  match i, hb with
  | 0, hb => exact h.o1.lt b hb
  | 1, hb => exact h.o2.lt b hb
  | 2, hb => exact h.o3.lt b hb
  | 3, hb => exact h.o4.lt b hb
  | 4, hb => exact h.o5.lt b hb
  | i + 5, hb => simp at hb
theorem FolA.app0 (h : FolA W g B lA ln lc sA sn sc qA qn qc d0 s0 r0 f0 i0 k0 l0 t0 lo0 hi0 a0 x0 y0 z0 ch asd arr st ld f) {w7 : World} {v' : Value} {x : Int} (o7 : Own w7 B 3 1 e64 v' (f.ch ++ [x])) (g7 : W.grownBy w7 ch.ownBlock) (hob : v'.ownBlock = ch.ownBlock ∨ v'.ownBlock = some W.heap.size) :
    FolA (w7.setCell ⟨g, 17, none⟩ v') g B lA ln lc sA sn sc qA qn qc d0 s0 r0 f0 i0 k0 l0 t0 lo0 hi0 a0 x0 y0 z0 v' asd arr st ld { f with ch := f.ch ++ [x] } := by
  have hgB := h.gB
  have hg7 : some g ≠ ch.ownBlock := fun e => by have := (h.lt 0 g e.symm).1; omega
  have hg : ∀ (u : Value) (hu : ∀ b, u.ownBlock = some b → B ≤ b), u.ownBlock = none ∨ u.ownBlock ≠ some g := fun u hu => by
    cases hq : u.ownBlock with
    | none => exact .inl rfl
    | some b => exact .inr (fun e => by injection e with e; have := hu b hq; omega)
  have gs := grown_set w7 g 17 v'
  refine ⟨(h.blk.grown g7 hg7).set_ 17 v', o7.kept gs (hg _ (fun b hb => (o7.lt b hb).1)), (h.o2.kept g7 (by
    cases hq : asd.ownBlock with
    | none => exact .inl rfl
    | some b => exact .inr (fun e => h.ap 1 0 (by decide) b (by simpa using hq) (by simpa using e.symm)))).kept gs (hg _ (fun b hb => (h.lt 1 b (by simpa using hb)).1)), (h.o3.kept g7 (by
    cases hq : arr.ownBlock with
    | none => exact .inl rfl
    | some b => exact .inr (fun e => h.ap 2 0 (by decide) b (by simpa using hq) (by simpa using e.symm)))).kept gs (hg _ (fun b hb => (h.lt 2 b (by simpa using hb)).1)), (h.o4.kept g7 (by
    cases hq : st.ownBlock with
    | none => exact .inl rfl
    | some b => exact .inr (fun e => h.ap 3 0 (by decide) b (by simpa using hq) (by simpa using e.symm)))).kept gs (hg _ (fun b hb => (h.lt 3 b (by simpa using hb)).1)), (h.o5.kept g7 (by
    cases hq : ld.ownBlock with
    | none => exact .inl rfl
    | some b => exact .inr (fun e => h.ap 4 0 (by decide) b (by simpa using hq) (by simpa using e.symm)))).kept gs (hg _ (fun b hb => (h.lt 4 b (by simpa using hb)).1)), ?_, hgB⟩
  have hs := h.ap.set (N := W.heap.size) (i := 0) (v := v'.ownBlock) (fun i b hb => (h.lt i b hb).2) (hob.imp id (fun e => ⟨_, e, Nat.le_refl _⟩))
  exact hs
theorem FolA.app1 (h : FolA W g B lA ln lc sA sn sc qA qn qc d0 s0 r0 f0 i0 k0 l0 t0 lo0 hi0 a0 x0 y0 z0 ch asd arr st ld f) {w7 : World} {v' : Value} {x : Int} (o7 : Own w7 B 3 1 e64 v' (f.asd ++ [x])) (g7 : W.grownBy w7 asd.ownBlock) (hob : v'.ownBlock = asd.ownBlock ∨ v'.ownBlock = some W.heap.size) :
    FolA (w7.setCell ⟨g, 18, none⟩ v') g B lA ln lc sA sn sc qA qn qc d0 s0 r0 f0 i0 k0 l0 t0 lo0 hi0 a0 x0 y0 z0 ch v' arr st ld { f with asd := f.asd ++ [x] } := by
  have hgB := h.gB
  have hg7 : some g ≠ asd.ownBlock := fun e => by have := (h.lt 1 g e.symm).1; omega
  have hg : ∀ (u : Value) (hu : ∀ b, u.ownBlock = some b → B ≤ b), u.ownBlock = none ∨ u.ownBlock ≠ some g := fun u hu => by
    cases hq : u.ownBlock with
    | none => exact .inl rfl
    | some b => exact .inr (fun e => by injection e with e; have := hu b hq; omega)
  have gs := grown_set w7 g 18 v'
  refine ⟨(h.blk.grown g7 hg7).set_ 18 v', (h.o1.kept g7 (by
    cases hq : ch.ownBlock with
    | none => exact .inl rfl
    | some b => exact .inr (fun e => h.ap 0 1 (by decide) b (by simpa using hq) (by simpa using e.symm)))).kept gs (hg _ (fun b hb => (h.lt 0 b (by simpa using hb)).1)), o7.kept gs (hg _ (fun b hb => (o7.lt b hb).1)), (h.o3.kept g7 (by
    cases hq : arr.ownBlock with
    | none => exact .inl rfl
    | some b => exact .inr (fun e => h.ap 2 1 (by decide) b (by simpa using hq) (by simpa using e.symm)))).kept gs (hg _ (fun b hb => (h.lt 2 b (by simpa using hb)).1)), (h.o4.kept g7 (by
    cases hq : st.ownBlock with
    | none => exact .inl rfl
    | some b => exact .inr (fun e => h.ap 3 1 (by decide) b (by simpa using hq) (by simpa using e.symm)))).kept gs (hg _ (fun b hb => (h.lt 3 b (by simpa using hb)).1)), (h.o5.kept g7 (by
    cases hq : ld.ownBlock with
    | none => exact .inl rfl
    | some b => exact .inr (fun e => h.ap 4 1 (by decide) b (by simpa using hq) (by simpa using e.symm)))).kept gs (hg _ (fun b hb => (h.lt 4 b (by simpa using hb)).1)), ?_, hgB⟩
  have hs := h.ap.set (N := W.heap.size) (i := 1) (v := v'.ownBlock) (fun i b hb => (h.lt i b hb).2) (hob.imp id (fun e => ⟨_, e, Nat.le_refl _⟩))
  exact hs
theorem FolA.app2 (h : FolA W g B lA ln lc sA sn sc qA qn qc d0 s0 r0 f0 i0 k0 l0 t0 lo0 hi0 a0 x0 y0 z0 ch asd arr st ld f) {w7 : World} {v' : Value} {x : Int} (o7 : Own w7 B 3 1 e64 v' (f.arr ++ [x])) (g7 : W.grownBy w7 arr.ownBlock) (hob : v'.ownBlock = arr.ownBlock ∨ v'.ownBlock = some W.heap.size) :
    FolA (w7.setCell ⟨g, 19, none⟩ v') g B lA ln lc sA sn sc qA qn qc d0 s0 r0 f0 i0 k0 l0 t0 lo0 hi0 a0 x0 y0 z0 ch asd v' st ld { f with arr := f.arr ++ [x] } := by
  have hgB := h.gB
  have hg7 : some g ≠ arr.ownBlock := fun e => by have := (h.lt 2 g e.symm).1; omega
  have hg : ∀ (u : Value) (hu : ∀ b, u.ownBlock = some b → B ≤ b), u.ownBlock = none ∨ u.ownBlock ≠ some g := fun u hu => by
    cases hq : u.ownBlock with
    | none => exact .inl rfl
    | some b => exact .inr (fun e => by injection e with e; have := hu b hq; omega)
  have gs := grown_set w7 g 19 v'
  refine ⟨(h.blk.grown g7 hg7).set_ 19 v', (h.o1.kept g7 (by
    cases hq : ch.ownBlock with
    | none => exact .inl rfl
    | some b => exact .inr (fun e => h.ap 0 2 (by decide) b (by simpa using hq) (by simpa using e.symm)))).kept gs (hg _ (fun b hb => (h.lt 0 b (by simpa using hb)).1)), (h.o2.kept g7 (by
    cases hq : asd.ownBlock with
    | none => exact .inl rfl
    | some b => exact .inr (fun e => h.ap 1 2 (by decide) b (by simpa using hq) (by simpa using e.symm)))).kept gs (hg _ (fun b hb => (h.lt 1 b (by simpa using hb)).1)), o7.kept gs (hg _ (fun b hb => (o7.lt b hb).1)), (h.o4.kept g7 (by
    cases hq : st.ownBlock with
    | none => exact .inl rfl
    | some b => exact .inr (fun e => h.ap 3 2 (by decide) b (by simpa using hq) (by simpa using e.symm)))).kept gs (hg _ (fun b hb => (h.lt 3 b (by simpa using hb)).1)), (h.o5.kept g7 (by
    cases hq : ld.ownBlock with
    | none => exact .inl rfl
    | some b => exact .inr (fun e => h.ap 4 2 (by decide) b (by simpa using hq) (by simpa using e.symm)))).kept gs (hg _ (fun b hb => (h.lt 4 b (by simpa using hb)).1)), ?_, hgB⟩
  have hs := h.ap.set (N := W.heap.size) (i := 2) (v := v'.ownBlock) (fun i b hb => (h.lt i b hb).2) (hob.imp id (fun e => ⟨_, e, Nat.le_refl _⟩))
  exact hs
theorem FolA.app4 (h : FolA W g B lA ln lc sA sn sc qA qn qc d0 s0 r0 f0 i0 k0 l0 t0 lo0 hi0 a0 x0 y0 z0 ch asd arr st ld f) {w7 : World} {v' : Value} {x : (Int × Int)} (o7 : Own w7 B 81 2 e2 v' (f.loads ++ [x])) (g7 : W.grownBy w7 ld.ownBlock) (hob : v'.ownBlock = ld.ownBlock ∨ v'.ownBlock = some W.heap.size) :
    FolA (w7.setCell ⟨g, 23, none⟩ v') g B lA ln lc sA sn sc qA qn qc d0 s0 r0 f0 i0 k0 l0 t0 lo0 hi0 a0 x0 y0 z0 ch asd arr st v' { f with loads := f.loads ++ [x] } := by
  have hgB := h.gB
  have hg7 : some g ≠ ld.ownBlock := fun e => by have := (h.lt 4 g e.symm).1; omega
  have hg : ∀ (u : Value) (hu : ∀ b, u.ownBlock = some b → B ≤ b), u.ownBlock = none ∨ u.ownBlock ≠ some g := fun u hu => by
    cases hq : u.ownBlock with
    | none => exact .inl rfl
    | some b => exact .inr (fun e => by injection e with e; have := hu b hq; omega)
  have gs := grown_set w7 g 23 v'
  refine ⟨(h.blk.grown g7 hg7).set_ 23 v', (h.o1.kept g7 (by
    cases hq : ch.ownBlock with
    | none => exact .inl rfl
    | some b => exact .inr (fun e => h.ap 0 4 (by decide) b (by simpa using hq) (by simpa using e.symm)))).kept gs (hg _ (fun b hb => (h.lt 0 b (by simpa using hb)).1)), (h.o2.kept g7 (by
    cases hq : asd.ownBlock with
    | none => exact .inl rfl
    | some b => exact .inr (fun e => h.ap 1 4 (by decide) b (by simpa using hq) (by simpa using e.symm)))).kept gs (hg _ (fun b hb => (h.lt 1 b (by simpa using hb)).1)), (h.o3.kept g7 (by
    cases hq : arr.ownBlock with
    | none => exact .inl rfl
    | some b => exact .inr (fun e => h.ap 2 4 (by decide) b (by simpa using hq) (by simpa using e.symm)))).kept gs (hg _ (fun b hb => (h.lt 2 b (by simpa using hb)).1)), (h.o4.kept g7 (by
    cases hq : st.ownBlock with
    | none => exact .inl rfl
    | some b => exact .inr (fun e => h.ap 3 4 (by decide) b (by simpa using hq) (by simpa using e.symm)))).kept gs (hg _ (fun b hb => (h.lt 3 b (by simpa using hb)).1)), o7.kept gs (hg _ (fun b hb => (o7.lt b hb).1)), ?_, hgB⟩
  have hs := h.ap.set (N := W.heap.size) (i := 4) (v := v'.ownBlock) (fun i b hb => (h.lt i b hb).2) (hob.imp id (fun e => ⟨_, e, Nat.le_refl _⟩))
  exact hs
theorem FolA.came (h : FolA W g B lA ln lc sA sn sc qA qn qc d0 s0 r0 f0 i0 k0 l0 t0 lo0 hi0 a0 x0 y0 z0 ch asd arr st ld f) {x : WaT} {e : Ending} {w' : World} (hc : CamGives W g B lA ln lc sA sn sc qA qn qc d0 s0 r0 f0 i0 k0 l0 t0 lo0 hi0 a0 x0 y0 z0 ch asd arr st ld 0 x e w') :
    ∃ st', e = .returned (.tuple #[]) ∧ FolA w' g B lA ln lc sA sn sc qA qn qc d0 s0 r0 f0 i0 k0 l0 t0 lo0 hi0 a0 x0 y0 z0 ch asd arr st' ld { f with w := x } ∧ Tw W w' g st.ownBlock := by
  obtain ⟨st', he, hb, ho, ht, hob⟩ := hc
  have hgB := h.gB
  have hn : ∀ i b, [ch.ownBlock, asd.ownBlock, arr.ownBlock, st.ownBlock, ld.ownBlock].getD i none = some b → some b ≠ some g := fun i b hb e => by
    injection e with e; have := (h.lt i b hb).1; omega
  refine ⟨st', he, ⟨hb, h.o1.tw ht (fun e => hn 0 g e rfl) (fun b hb e => h.ap 0 3 (by decide) b hb e), h.o2.tw ht (fun e => hn 1 g e rfl) (fun b hb e => h.ap 1 3 (by decide) b hb e), h.o3.tw ht (fun e => hn 2 g e rfl) (fun b hb e => h.ap 2 3 (by decide) b hb e), ho, h.o5.tw ht (fun e => hn 4 g e rfl) (fun b hb e => h.ap 4 3 (by decide) b hb e), ?_, hgB⟩, ht⟩
  exact h.ap.set (N := W.heap.size) (i := 3) (v := st'.ownBlock) (fun i b hb => (h.lt i b hb).2) hob
end
end Go.Proofs.YtfelgolfebhmkaaDoor
