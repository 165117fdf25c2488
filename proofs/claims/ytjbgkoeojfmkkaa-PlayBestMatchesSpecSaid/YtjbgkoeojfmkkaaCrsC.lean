/- The document's course and its rows in memory. Conditions as stated. -/
import Derived.Test.YtjbgkoeojfmkkaaCrsB
import Derived.Test.YtjbgkoeojfmkkaaHeldY
import Derived.Test.YtjbgkoeojfmkkaaFolA
namespace Go.Proofs.Ytjbgkoeojfmkkaa
open Go.RowKit

/-- The course in memory, with all its rows: c1 c2 c3 stand in its cells, v1 v2 v3 are the rows. -/
structure RndR (w W : World) (lA : Option Addr) (ln lc : Nat) (sA : Option Addr) (sn sc : Nat) (qA : Option Addr) (qn qc : Nat) (d0 s0 r0 f0 i0 k0 l0 t0 lo0 hi0 a0 x0 y0 z0 gw gb : Int) (c1 c2 c3 v1 v2 v3 st ld : Value) (F : FoT) : Prop where
  crs : Blk W (w.heap.size + 1 + 1 + 1 + 1) 102 #[c1, c2, c3, .int .i64 F.w.beg, st, .int .i64 0, .bool F.w.begun, .bool F.w.plays, .int .i64 F.w.at_, .int .i64 F.w.buf, .int .i64 F.w.stalled]
  o1 : Own W (w.heap.size + 1 + 1 + 1 + 1 + 1) 3 1 e64 v1 F.ch
  o2 : Own W (w.heap.size + 1 + 1 + 1 + 1 + 1) 3 1 e64 v2 F.asd
  o3 : Own W (w.heap.size + 1 + 1 + 1 + 1 + 1) 3 1 e64 v3 F.arr
  o4 : Own W (w.heap.size + 1 + 1 + 1 + 1 + 1) 81 2 e2 st F.w.stalls
  o5 : Own W (w.heap.size + 1 + 1 + 1 + 1 + 1) 97 2 e2 ld F.loads
  ap : Apart [v1.ownBlock, v2.ownBlock, v3.ownBlock, st.ownBlock, ld.ownBlock]
  shw : Blk W w.heap.size 25 #[.slice lA ln lc, .slice sA sn sc, .slice qA qn qc]
  plr : Blk W (w.heap.size + 1) 30 #[.int .i64 d0, .int .i64 s0, .int .i64 r0, .int .i64 f0, .int .i64 i0, .int .i64 k0, .int .i64 l0, .int .i64 t0, .int .i64 lo0, .int .i64 hi0, .int .i64 a0, .int .i64 x0, .int .i64 y0, .int .i64 z0]
  prm : Blk W (w.heap.size + 1 + 1) 44 #[.int .i64 gw, .int .i64 gb]
  ses : Blk W (w.heap.size + 1 + 1 + 1) 33 #[.slice none 0 0, .slice none 0 0, .slice none 0 0, .int .i64 0, .slice none 0 0, .int .i64 0]
  ext : Ext w W
section
variable {lA : Option Addr} {ln lc : Nat} {sA : Option Addr} {sn sc : Nat} {qA : Option Addr} {qn qc : Nat} {d0 s0 r0 f0 i0 k0 l0 t0 lo0 hi0 a0 x0 y0 z0 gw gb : Int} {c1 c2 c3 v1 v2 v3 st ld : Value} {F : FoT} {w W W' : World}
theorem RndR.ext' (h : RndR w W lA ln lc sA sn sc qA qn qc d0 s0 r0 f0 i0 k0 l0 t0 lo0 hi0 a0 x0 y0 z0 gw gb c1 c2 c3 v1 v2 v3 st ld F) (he : Ext W W') : RndR w W' lA ln lc sA sn sc qA qn qc d0 s0 r0 f0 i0 k0 l0 t0 lo0 hi0 a0 x0 y0 z0 gw gb c1 c2 c3 v1 v2 v3 st ld F :=
  ⟨h.crs.ext he, h.o1.ext he, h.o2.ext he, h.o3.ext he, h.o4.ext he, h.o5.ext he, h.ap, h.shw.ext he, h.plr.ext he, h.prm.ext he, h.ses.ext he, Ext.trans h.ext he⟩
theorem RndR.lt (h : RndR w W lA ln lc sA sn sc qA qn qc d0 s0 r0 f0 i0 k0 l0 t0 lo0 hi0 a0 x0 y0 z0 gw gb c1 c2 c3 v1 v2 v3 st ld F) : ∀ i b, [v1.ownBlock, v2.ownBlock, v3.ownBlock, st.ownBlock, ld.ownBlock].getD i none = some b → (w.heap.size + 1 + 1 + 1 + 1 + 1) ≤ b ∧ b < W.heap.size := by
  intro i b hb
  match i, hb with
  | 0, hb => exact h.o1.lt b hb
  | 1, hb => exact h.o2.lt b hb
  | 2, hb => exact h.o3.lt b hb
  | 3, hb => exact h.o4.lt b hb
  | 4, hb => exact h.o5.lt b hb
  | i + 5, hb => simp at hb
/-- The boxes stay as they are. -/
theorem RndR.boxes (h : RndR w W lA ln lc sA sn sc qA qn qc d0 s0 r0 f0 i0 k0 l0 t0 lo0 hi0 a0 x0 y0 z0 gw gb c1 c2 c3 v1 v2 v3 st ld F) {row : Option Nat} (ht : Tw W W' (w.heap.size + 1 + 1 + 1 + 1) row) (hr : ∀ b, row = some b → (w.heap.size + 1 + 1 + 1 + 1 + 1) ≤ b) :
    Blk W' w.heap.size 25 #[.slice lA ln lc, .slice sA sn sc, .slice qA qn qc] ∧ Blk W' (w.heap.size + 1) 30 #[.int .i64 d0, .int .i64 s0, .int .i64 r0, .int .i64 f0, .int .i64 i0, .int .i64 k0, .int .i64 l0, .int .i64 t0, .int .i64 lo0, .int .i64 hi0, .int .i64 a0, .int .i64 x0, .int .i64 y0, .int .i64 z0] ∧ Blk W' (w.heap.size + 1 + 1) 44 #[.int .i64 gw, .int .i64 gb] ∧ Blk W' (w.heap.size + 1 + 1 + 1) 33 #[.slice none 0 0, .slice none 0 0, .slice none 0 0, .int .i64 0, .slice none 0 0, .int .i64 0] ∧ Ext w W' := by
  have hn : ∀ g, g < (w.heap.size + 1 + 1 + 1 + 1) → some g ≠ row := fun g hg e => by have := hr g e.symm; omega
  exact ⟨ht.blk h.shw (by omega) (hn _ (by omega)), ht.blk h.plr (by omega) (hn _ (by omega)), ht.blk h.prm (by omega) (hn _ (by omega)), ht.blk h.ses (by omega) (hn _ (by omega)), Below.trans h.ext (ht.below h.ext.size (by omega) (fun b hb => by have := hr b hb; omega))⟩
/-- It plays up to a time. -/
theorem RndR.pass (h : RndR w W lA ln lc sA sn sc qA qn qc d0 s0 r0 f0 i0 k0 l0 t0 lo0 hi0 a0 x0 y0 z0 gw gb c1 c2 c3 v1 v2 v3 st ld F) {x : WaT} {e : Ending} {w' : World} (hx : x.stalls = F.w.stalls) (hc : PasGives W (w.heap.size + 1 + 1 + 1 + 1) c1 c2 c3 st 0 x e w') :
    e = .returned (.tuple #[]) ∧ RndR w w' lA ln lc sA sn sc qA qn qc d0 s0 r0 f0 i0 k0 l0 t0 lo0 hi0 a0 x0 y0 z0 gw gb c1 c2 c3 v1 v2 v3 st ld { F with w := x } := by
  obtain ⟨he, hb, ht⟩ := hc
  obtain ⟨b1, b2, b3, b4, b5⟩ := h.boxes ht (fun b hb => by cases hb)
  have hn : ∀ i b, [v1.ownBlock, v2.ownBlock, v3.ownBlock, st.ownBlock, ld.ownBlock].getD i none = some b → some b ≠ some (w.heap.size + 1 + 1 + 1 + 1) := fun i b hb e => by
    injection e with e; have := (h.lt i b hb).1; omega
  exact ⟨he, hb, h.o1.tw ht (fun e => hn 0 _ e rfl) (fun _ _ e => by cases e), h.o2.tw ht (fun e => hn 1 _ e rfl) (fun _ _ e => by cases e), h.o3.tw ht (fun e => hn 2 _ e rfl) (fun _ _ e => by cases e), (by rw [hx]; exact h.o4.tw ht (fun e => hn 3 _ e rfl) (fun _ _ e => by cases e)), h.o5.tw ht (fun e => hn 4 _ e rfl) (fun _ _ e => by cases e), h.ap, b1, b2, b3, b4, b5⟩
/-- A segment comes. -/
theorem RndR.come (h : RndR w W lA ln lc sA sn sc qA qn qc d0 s0 r0 f0 i0 k0 l0 t0 lo0 hi0 a0 x0 y0 z0 gw gb c1 c2 c3 v1 v2 v3 st ld F) {x : WaT} {e : Ending} {w' : World} (hc : ComGives W (w.heap.size + 1 + 1 + 1 + 1) (w.heap.size + 1 + 1 + 1 + 1 + 1) c1 c2 c3 st 0 x e w') :
    ∃ st', e = .returned (.tuple #[]) ∧ RndR w w' lA ln lc sA sn sc qA qn qc d0 s0 r0 f0 i0 k0 l0 t0 lo0 hi0 a0 x0 y0 z0 gw gb c1 c2 c3 v1 v2 v3 st' ld { F with w := x } := by
  obtain ⟨st', he, hb, ho, ht, hob⟩ := hc
  obtain ⟨b1, b2, b3, b4, b5⟩ := h.boxes ht (fun b hb => (h.lt 3 b hb).1)
  have hn : ∀ i b, [v1.ownBlock, v2.ownBlock, v3.ownBlock, st.ownBlock, ld.ownBlock].getD i none = some b → some b ≠ some (w.heap.size + 1 + 1 + 1 + 1) := fun i b hb e => by
    injection e with e; have := (h.lt i b hb).1; omega
  refine ⟨st', he, hb, h.o1.tw ht (fun e => hn 0 _ e rfl) (fun b hb e => h.ap 0 3 (by decide) b hb e), h.o2.tw ht (fun e => hn 1 _ e rfl) (fun b hb e => h.ap 1 3 (by decide) b hb e), h.o3.tw ht (fun e => hn 2 _ e rfl) (fun b hb e => h.ap 2 3 (by decide) b hb e), ho, h.o5.tw ht (fun e => hn 4 _ e rfl) (fun b hb e => h.ap 4 3 (by decide) b hb e), ?_, b1, b2, b3, b4, b5⟩
  exact h.ap.set (N := W.heap.size) (i := 3) (v := st'.ownBlock) (fun i b hb => (h.lt i b hb).2) hob
/-- A row grows. -/
theorem RndR.app0 (h : RndR w W lA ln lc sA sn sc qA qn qc d0 s0 r0 f0 i0 k0 l0 t0 lo0 hi0 a0 x0 y0 z0 gw gb c1 c2 c3 v1 v2 v3 st ld F) {w7 : World} {v' : Value} {x : Int} (o7 : Own w7 (w.heap.size + 1 + 1 + 1 + 1 + 1) 3 1 e64 v' (F.ch ++ [x])) (g7 : W.grownBy w7 v1.ownBlock) (hob : v'.ownBlock = v1.ownBlock ∨ v'.ownBlock = some W.heap.size) :
    RndR w w7 lA ln lc sA sn sc qA qn qc d0 s0 r0 f0 i0 k0 l0 t0 lo0 hi0 a0 x0 y0 z0 gw gb c1 c2 c3 v' v2 v3 st ld { F with ch := F.ch ++ [x] } := by
  have hg7 : some (w.heap.size + 1 + 1 + 1 + 1) ≠ v1.ownBlock := fun e => by have := (h.lt 0 _ e.symm).1; omega
  obtain ⟨b1, b2, b3, b4, b5⟩ := h.boxes (Tw.of_grown (o := (w.heap.size + 1 + 1 + 1 + 1)) g7) (fun b hb => (h.lt 0 b hb).1)
  refine ⟨h.crs.grown g7 hg7, o7, h.o2.kept g7 (by
    cases hq : v2.ownBlock with
    | none => exact .inl rfl
    | some b => exact .inr (fun e => h.ap 1 0 (by decide) b (by simpa using hq) (by simpa using e.symm))), h.o3.kept g7 (by
    cases hq : v3.ownBlock with
    | none => exact .inl rfl
    | some b => exact .inr (fun e => h.ap 2 0 (by decide) b (by simpa using hq) (by simpa using e.symm))), h.o4.kept g7 (by
    cases hq : st.ownBlock with
    | none => exact .inl rfl
    | some b => exact .inr (fun e => h.ap 3 0 (by decide) b (by simpa using hq) (by simpa using e.symm))), h.o5.kept g7 (by
    cases hq : ld.ownBlock with
    | none => exact .inl rfl
    | some b => exact .inr (fun e => h.ap 4 0 (by decide) b (by simpa using hq) (by simpa using e.symm))), ?_, b1, b2, b3, b4, b5⟩
  exact h.ap.set (N := W.heap.size) (i := 0) (v := v'.ownBlock) (fun i b hb => (h.lt i b hb).2) (hob.imp id (fun e => ⟨_, e, Nat.le_refl _⟩))
/-- A row grows. -/
theorem RndR.app1 (h : RndR w W lA ln lc sA sn sc qA qn qc d0 s0 r0 f0 i0 k0 l0 t0 lo0 hi0 a0 x0 y0 z0 gw gb c1 c2 c3 v1 v2 v3 st ld F) {w7 : World} {v' : Value} {x : Int} (o7 : Own w7 (w.heap.size + 1 + 1 + 1 + 1 + 1) 3 1 e64 v' (F.asd ++ [x])) (g7 : W.grownBy w7 v2.ownBlock) (hob : v'.ownBlock = v2.ownBlock ∨ v'.ownBlock = some W.heap.size) :
    RndR w w7 lA ln lc sA sn sc qA qn qc d0 s0 r0 f0 i0 k0 l0 t0 lo0 hi0 a0 x0 y0 z0 gw gb c1 c2 c3 v1 v' v3 st ld { F with asd := F.asd ++ [x] } := by
  have hg7 : some (w.heap.size + 1 + 1 + 1 + 1) ≠ v2.ownBlock := fun e => by have := (h.lt 1 _ e.symm).1; omega
  obtain ⟨b1, b2, b3, b4, b5⟩ := h.boxes (Tw.of_grown (o := (w.heap.size + 1 + 1 + 1 + 1)) g7) (fun b hb => (h.lt 1 b hb).1)
  refine ⟨h.crs.grown g7 hg7, h.o1.kept g7 (by
    cases hq : v1.ownBlock with
    | none => exact .inl rfl
    | some b => exact .inr (fun e => h.ap 0 1 (by decide) b (by simpa using hq) (by simpa using e.symm))), o7, h.o3.kept g7 (by
    cases hq : v3.ownBlock with
    | none => exact .inl rfl
    | some b => exact .inr (fun e => h.ap 2 1 (by decide) b (by simpa using hq) (by simpa using e.symm))), h.o4.kept g7 (by
    cases hq : st.ownBlock with
    | none => exact .inl rfl
    | some b => exact .inr (fun e => h.ap 3 1 (by decide) b (by simpa using hq) (by simpa using e.symm))), h.o5.kept g7 (by
    cases hq : ld.ownBlock with
    | none => exact .inl rfl
    | some b => exact .inr (fun e => h.ap 4 1 (by decide) b (by simpa using hq) (by simpa using e.symm))), ?_, b1, b2, b3, b4, b5⟩
  exact h.ap.set (N := W.heap.size) (i := 1) (v := v'.ownBlock) (fun i b hb => (h.lt i b hb).2) (hob.imp id (fun e => ⟨_, e, Nat.le_refl _⟩))
/-- A row grows. -/
theorem RndR.app2 (h : RndR w W lA ln lc sA sn sc qA qn qc d0 s0 r0 f0 i0 k0 l0 t0 lo0 hi0 a0 x0 y0 z0 gw gb c1 c2 c3 v1 v2 v3 st ld F) {w7 : World} {v' : Value} {x : Int} (o7 : Own w7 (w.heap.size + 1 + 1 + 1 + 1 + 1) 3 1 e64 v' (F.arr ++ [x])) (g7 : W.grownBy w7 v3.ownBlock) (hob : v'.ownBlock = v3.ownBlock ∨ v'.ownBlock = some W.heap.size) :
    RndR w w7 lA ln lc sA sn sc qA qn qc d0 s0 r0 f0 i0 k0 l0 t0 lo0 hi0 a0 x0 y0 z0 gw gb c1 c2 c3 v1 v2 v' st ld { F with arr := F.arr ++ [x] } := by
  have hg7 : some (w.heap.size + 1 + 1 + 1 + 1) ≠ v3.ownBlock := fun e => by have := (h.lt 2 _ e.symm).1; omega
  obtain ⟨b1, b2, b3, b4, b5⟩ := h.boxes (Tw.of_grown (o := (w.heap.size + 1 + 1 + 1 + 1)) g7) (fun b hb => (h.lt 2 b hb).1)
  refine ⟨h.crs.grown g7 hg7, h.o1.kept g7 (by
    cases hq : v1.ownBlock with
    | none => exact .inl rfl
    | some b => exact .inr (fun e => h.ap 0 2 (by decide) b (by simpa using hq) (by simpa using e.symm))), h.o2.kept g7 (by
    cases hq : v2.ownBlock with
    | none => exact .inl rfl
    | some b => exact .inr (fun e => h.ap 1 2 (by decide) b (by simpa using hq) (by simpa using e.symm))), o7, h.o4.kept g7 (by
    cases hq : st.ownBlock with
    | none => exact .inl rfl
    | some b => exact .inr (fun e => h.ap 3 2 (by decide) b (by simpa using hq) (by simpa using e.symm))), h.o5.kept g7 (by
    cases hq : ld.ownBlock with
    | none => exact .inl rfl
    | some b => exact .inr (fun e => h.ap 4 2 (by decide) b (by simpa using hq) (by simpa using e.symm))), ?_, b1, b2, b3, b4, b5⟩
  exact h.ap.set (N := W.heap.size) (i := 2) (v := v'.ownBlock) (fun i b hb => (h.lt i b hb).2) (hob.imp id (fun e => ⟨_, e, Nat.le_refl _⟩))
/-- A row grows. -/
theorem RndR.app4 (h : RndR w W lA ln lc sA sn sc qA qn qc d0 s0 r0 f0 i0 k0 l0 t0 lo0 hi0 a0 x0 y0 z0 gw gb c1 c2 c3 v1 v2 v3 st ld F) {w7 : World} {v' : Value} {x : (Int × Int)} (o7 : Own w7 (w.heap.size + 1 + 1 + 1 + 1 + 1) 97 2 e2 v' (F.loads ++ [x])) (g7 : W.grownBy w7 ld.ownBlock) (hob : v'.ownBlock = ld.ownBlock ∨ v'.ownBlock = some W.heap.size) :
    RndR w w7 lA ln lc sA sn sc qA qn qc d0 s0 r0 f0 i0 k0 l0 t0 lo0 hi0 a0 x0 y0 z0 gw gb c1 c2 c3 v1 v2 v3 st v' { F with loads := F.loads ++ [x] } := by
  have hg7 : some (w.heap.size + 1 + 1 + 1 + 1) ≠ ld.ownBlock := fun e => by have := (h.lt 4 _ e.symm).1; omega
  obtain ⟨b1, b2, b3, b4, b5⟩ := h.boxes (Tw.of_grown (o := (w.heap.size + 1 + 1 + 1 + 1)) g7) (fun b hb => (h.lt 4 b hb).1)
  refine ⟨h.crs.grown g7 hg7, h.o1.kept g7 (by
    cases hq : v1.ownBlock with
    | none => exact .inl rfl
    | some b => exact .inr (fun e => h.ap 0 4 (by decide) b (by simpa using hq) (by simpa using e.symm))), h.o2.kept g7 (by
    cases hq : v2.ownBlock with
    | none => exact .inl rfl
    | some b => exact .inr (fun e => h.ap 1 4 (by decide) b (by simpa using hq) (by simpa using e.symm))), h.o3.kept g7 (by
    cases hq : v3.ownBlock with
    | none => exact .inl rfl
    | some b => exact .inr (fun e => h.ap 2 4 (by decide) b (by simpa using hq) (by simpa using e.symm))), h.o4.kept g7 (by
    cases hq : st.ownBlock with
    | none => exact .inl rfl
    | some b => exact .inr (fun e => h.ap 3 4 (by decide) b (by simpa using hq) (by simpa using e.symm))), o7, ?_, b1, b2, b3, b4, b5⟩
  exact h.ap.set (N := W.heap.size) (i := 4) (v := v'.ownBlock) (fun i b hb => (h.lt i b hb).2) (hob.imp id (fun e => ⟨_, e, Nat.le_refl _⟩))
/-- The cells of the rows are stored anew. -/
theorem RndR.sets (h : RndR w W lA ln lc sA sn sc qA qn qc d0 s0 r0 f0 i0 k0 l0 t0 lo0 hi0 a0 x0 y0 z0 gw gb c1 c2 c3 v1 v2 v3 st ld F) : RndR w (((W.setCell ⟨(w.heap.size + 1 + 1 + 1 + 1), 0, none⟩ v1).setCell ⟨(w.heap.size + 1 + 1 + 1 + 1), 1, none⟩ v2).setCell ⟨(w.heap.size + 1 + 1 + 1 + 1), 2, none⟩ v3) lA ln lc sA sn sc qA qn qc d0 s0 r0 f0 i0 k0 l0 t0 lo0 hi0 a0 x0 y0 z0 gw gb v1 v2 v3 v1 v2 v3 st ld F := by
  have ht : Tw W (((W.setCell ⟨(w.heap.size + 1 + 1 + 1 + 1), 0, none⟩ v1).setCell ⟨(w.heap.size + 1 + 1 + 1 + 1), 1, none⟩ v2).setCell ⟨(w.heap.size + 1 + 1 + 1 + 1), 2, none⟩ v3) (w.heap.size + 1 + 1 + 1 + 1) none := ((Tw.set_ _ _ _ _ _).trans (Tw.set_ _ _ _ _ _)).trans (Tw.set_ _ _ _ _ _)
  obtain ⟨b1, b2, b3, b4, b5⟩ := h.boxes ht (fun b hb => by cases hb)
  have hn : ∀ i b, [v1.ownBlock, v2.ownBlock, v3.ownBlock, st.ownBlock, ld.ownBlock].getD i none = some b → some b ≠ some (w.heap.size + 1 + 1 + 1 + 1) := fun i b hb e => by
    injection e with e; have := (h.lt i b hb).1; omega
  exact ⟨((h.crs.set_ 0 v1).set_ 1 v2).set_ 2 v3, h.o1.tw ht (fun e => hn 0 _ e rfl) (fun _ _ e => by cases e), h.o2.tw ht (fun e => hn 1 _ e rfl) (fun _ _ e => by cases e), h.o3.tw ht (fun e => hn 2 _ e rfl) (fun _ _ e => by cases e), h.o4.tw ht (fun e => hn 3 _ e rfl) (fun _ _ e => by cases e), h.o5.tw ht (fun e => hn 4 _ e rfl) (fun _ _ e => by cases e), h.ap, b1, b2, b3, b4, b5⟩
end
end Go.Proofs.Ytjbgkoeojfmkkaa
