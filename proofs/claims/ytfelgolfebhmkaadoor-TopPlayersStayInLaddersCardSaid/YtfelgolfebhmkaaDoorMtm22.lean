/- Walk: follow of the program. Conditions: as stated. -/
import Derived.Test.YtfelgolfebhmkaaDoorMtm14
import Derived.Test.YtfelgolfebhmkaaDoorMtm19
import Derived.Test.YtfelgolfebhmkaaDoorMtm21
namespace Go.Proofs.YtfelgolfebhmkaaDoor
open Go.RowKit
theorem Tryd.info81 : (Tryd.prog.info? 81).map (fun i => (i.zero, i.size, i.bytes)) = some (some (.agg #[.int .i64 0, .int .i64 0]), 2, 16) := by kernel_rfl
theorem Tryd.infoI : (Tryd.prog.info? 3).map (fun i => (i.zero, i.size, i.bytes)) = some (some (.int .i64 0), 1, 8) := by kernel_rfl
def SesAt (W : World) (B : Nat) (v : Value) (ch asd arr : List Int) (beg : Int) (sts : List (Int × Int)) (en : Int) : Prop :=
  ∃ (cA : Option Addr) (cc : Nat) (aA : Option Addr) (ac : Nat) (rA : Option Addr) (rc : Nat) (tA : Option Addr) (tc : Nat), v = .agg #[.slice cA ch.length cc, .slice aA asd.length ac, .slice rA arr.length rc, .int .i64 beg, .slice tA sts.length tc, .int .i64 en] ∧
    At W 1 e64 cA ch.length cc ch ∧ At W 1 e64 aA asd.length ac asd ∧ At W 1 e64 rA arr.length rc arr ∧ At W 2 e2 tA sts.length tc sts ∧ (∀ a, (cA = some a ∨ aA = some a ∨ rA = some a ∨ tA = some a) → B ≤ a.block)
theorem SesAt.ext {W W' : World} {B : Nat} {v : Value} {ch asd arr : List Int} {beg : Int} {sts : List (Int × Int)} {en : Int} (h : SesAt W B v ch asd arr beg sts en) (he : Ext W W') : SesAt W' B v ch asd arr beg sts en := by
  obtain ⟨cA, cc, aA, ac, rA, rc, tA, tc, e, h1, h2, h3, h4, h5⟩ := h
  exact ⟨cA, cc, aA, ac, rA, rc, tA, tc, e, h1.ext he, h2.ext he, h3.ext he, h4.ext he, h5⟩
theorem cell_far {w : World} {b o : Nat} {v u : Value} {b2 o2 : Nat} (h : w.cell? ⟨b, o, none⟩ = some v) (hp : b ≠ b2) : (w.setCell ⟨b2, o2, none⟩ u).cell? ⟨b, o, none⟩ = some v := by
  have h4 := Below.heap_setCell w ⟨b2, o2, none⟩ u b hp
  unfold World.cell? at h ⊢
  simp only at h ⊢
  rw [h4]
  exact h
def FolGives (w : World) (n : Nat) (f : FoT) (e : Ending) (w' : World) : Prop :=
  ∃ v, e = .returned v ∧ SesAt w' w.heap.size v f.ch f.asd f.arr f.w.beg f.w.stalls (f.w.at_ + f.w.buf) ∧ (f.ch.length = n ∧ f.asd.length = n ∧ f.arr.length = n ∧ f.w.stalls.length ≤ n) ∧ Ext w w'
theorem stalls_len (start resume long t : Int) (last : Bool) (s : WaT) : (camT start resume long t last s).stalls.length ≤ s.stalls.length + 1 := by
  unfold camT landT passT
  grind
theorem fol_len (full start resume : Int) (L : List Int) (S : List (List Int)) (pk : Nat → Int → Int → List (Int × Int) → Int → Int) (av : Int → Int → Int) : ∀ n, (folF full start resume L S pk av n).ch.length = n ∧ (folF full start resume L S pk av n).asd.length = n ∧ (folF full start resume L S pk av n).arr.length = n ∧ (folF full start resume L S pk av n).loads.length = n ∧ (folF full start resume L S pk av n).w.stalls.length ≤ n
  | 0 => ⟨rfl, rfl, rfl, rfl, Nat.le_refl _⟩
  | n + 1 => by
    obtain ⟨h1, h2, h3, h4, h5⟩ := fol_len full start resume L S pk av n
    have h6 := stalls_len start resume (L.getD n 0) (tN full start resume L S pk av n) (decide (n + 1 = L.length)) (folF full start resume L S pk av n).w
    have e : folF full start resume L S pk av (n + 1) = ⟨camT start resume (L.getD n 0) (tN full start resume L S pk av n) (decide (n + 1 = L.length)) (folF full start resume L S pk av n).w, (folF full start resume L S pk av n).loads ++ [(zN full start resume L S pk av n, tN full start resume L S pk av n - asN full start resume L S pk av n)], (folF full start resume L S pk av n).ch ++ [rN full start resume L S pk av n], (folF full start resume L S pk av n).asd ++ [asN full start resume L S pk av n], (folF full start resume L S pk av n).arr ++ [tN full start resume L S pk av n], rN full start resume L S pk av n⟩ := rfl
    rw [e]
    simp only [List.length_append, List.length_singleton]
    omega
section
variable {lA : Option Addr} {ln lc : Nat} {sA : Option Addr} {sn sc : Nat} {qA : Option Addr} {qn qc : Nat} {d0 s0 r0 f0 i0 k0 l0 t0 lo0 hi0 a0 x0 y0 z0 : Int} {L : List Int} {S : List (List Int)} {Q : List Int} {pk : Nat → Int → Int → List (Int × Int) → Int → Int} {av : Int → Int → Int} {w : World}
structure RndA (w W : World) (lA : Option Addr) (ln lc : Nat) (sA : Option Addr) (sn sc : Nat) (qA : Option Addr) (qn qc : Nat) (d0 s0 r0 f0 i0 k0 l0 t0 lo0 hi0 a0 x0 y0 z0 : Int) (ch asd arr st ld : Value) (F : FoT) : Prop where
  fol : FolA W (w.heap.size + 1 + 1 + 1) (w.heap.size + 1 + 1 + 1 + 1) lA ln lc sA sn sc qA qn qc d0 s0 r0 f0 i0 k0 l0 t0 lo0 hi0 a0 x0 y0 z0 ch asd arr st ld F
  shw : Blk W w.heap.size 25 #[.slice lA ln lc, .slice sA sn sc, .slice qA qn qc]
  ses : Blk W (w.heap.size + 1 + 1) 38 #[.slice none 0 0, .slice none 0 0, .slice none 0 0, .int .i64 0, .slice none 0 0, .int .i64 0]
  ext : Ext w W
theorem RndA.ext' {W W' : World} {ch asd arr st ld : Value} {F : FoT} (h : RndA w W lA ln lc sA sn sc qA qn qc d0 s0 r0 f0 i0 k0 l0 t0 lo0 hi0 a0 x0 y0 z0 ch asd arr st ld F) (he : Ext W W') : RndA w W' lA ln lc sA sn sc qA qn qc d0 s0 r0 f0 i0 k0 l0 t0 lo0 hi0 a0 x0 y0 z0 ch asd arr st ld F := ⟨h.fol.ext he, h.shw.ext he, h.ses.ext he, Ext.trans h.ext he⟩
theorem RndA.turn {W W' : World} {ch asd arr st ld ch' asd' arr' st' ld' : Value} {F F' : FoT} (h : RndA w W lA ln lc sA sn sc qA qn qc d0 s0 r0 f0 i0 k0 l0 t0 lo0 hi0 a0 x0 y0 z0 ch asd arr st ld F) {row : Option Nat} (ht : Tw W W' (w.heap.size + 1 + 1 + 1) row) (hr : ∀ b, row = some b → (w.heap.size + 1 + 1 + 1 + 1) ≤ b) (hf : FolA W' (w.heap.size + 1 + 1 + 1) (w.heap.size + 1 + 1 + 1 + 1) lA ln lc sA sn sc qA qn qc d0 s0 r0 f0 i0 k0 l0 t0 lo0 hi0 a0 x0 y0 z0 ch' asd' arr' st' ld' F') : RndA w W' lA ln lc sA sn sc qA qn qc d0 s0 r0 f0 i0 k0 l0 t0 lo0 hi0 a0 x0 y0 z0 ch' asd' arr' st' ld' F' :=
  ⟨hf, ht.blk h.shw (by omega) (fun e => by have := hr _ e.symm; omega), ht.blk h.ses (by omega) (fun e => by have := hr _ e.symm; omega), Below.trans h.ext (ht.below h.ext.size (by omega) (fun b hb => by have := hr b hb; omega))⟩
theorem RndA.came {W : World} {ch asd arr st ld : Value} {F : FoT} (h : RndA w W lA ln lc sA sn sc qA qn qc d0 s0 r0 f0 i0 k0 l0 t0 lo0 hi0 a0 x0 y0 z0 ch asd arr st ld F) {x : WaT} {e : Ending} {w' : World} (hc : CamGives W (w.heap.size + 1 + 1 + 1) (w.heap.size + 1 + 1 + 1 + 1) lA ln lc sA sn sc qA qn qc d0 s0 r0 f0 i0 k0 l0 t0 lo0 hi0 a0 x0 y0 z0 ch asd arr st ld 0 x e w') :
    ∃ st', e = .returned (.tuple #[]) ∧ RndA w w' lA ln lc sA sn sc qA qn qc d0 s0 r0 f0 i0 k0 l0 t0 lo0 hi0 a0 x0 y0 z0 ch asd arr st' ld { F with w := x } := by
  obtain ⟨st', h1, h2, h3⟩ := h.fol.came hc
  exact ⟨st', h1, h.turn h3 (fun b hb => (h.fol.lt 3 b hb).1) h2⟩
theorem RndA.app0 {W : World} {ch asd arr st ld : Value} {F : FoT} (h : RndA w W lA ln lc sA sn sc qA qn qc d0 s0 r0 f0 i0 k0 l0 t0 lo0 hi0 a0 x0 y0 z0 ch asd arr st ld F) {ob : Obj} {w7 : World} {v' : Value} {x : Int} (o7 : Own w7 (w.heap.size + 1 + 1 + 1 + 1) 3 1 e64 v' (F.ch ++ [x])) (g7 : (W.alloc ob).grownBy w7 ch.ownBlock) (hob : v'.ownBlock = ch.ownBlock ∨ v'.ownBlock = some (W.alloc ob).heap.size) :
    RndA w (w7.setCell ⟨(w.heap.size + 1 + 1 + 1), 17, none⟩ v') lA ln lc sA sn sc qA qn qc d0 s0 r0 f0 i0 k0 l0 t0 lo0 hi0 a0 x0 y0 z0 v' asd arr st ld { F with ch := F.ch ++ [x] } ∧ Blk w7 (w.heap.size + 1 + 1 + 1) 77 #[.slice lA ln lc, .slice sA sn sc, .slice qA qn qc, .int .i64 d0, .int .i64 s0, .int .i64 r0, .int .i64 f0, .int .i64 i0, .int .i64 k0, .int .i64 l0, .int .i64 t0, .int .i64 lo0, .int .i64 hi0, .int .i64 a0, .int .i64 x0, .int .i64 y0, .int .i64 z0, ch, asd, arr, .int .i64 F.w.beg, st, .int .i64 0, ld, .int .i64 F.w.at_, .int .i64 F.w.buf, .bool F.w.plays, .bool F.w.begun, .int .i64 F.w.stalled] := by
  have h1 := h.ext' (Ext.alloc W ob)
  have hB := fun b (hb : ch.ownBlock = some b) => (h1.fol.lt 0 b hb).1
  refine ⟨h1.turn ((Tw.of_grown g7).trans (Tw.set_ _ _ _ _ _)) hB (h1.fol.app0 o7 g7 hob), h1.fol.blk.grown g7 (fun e => ?_)⟩
  have := hB _ e.symm
  omega
theorem RndA.app1 {W : World} {ch asd arr st ld : Value} {F : FoT} (h : RndA w W lA ln lc sA sn sc qA qn qc d0 s0 r0 f0 i0 k0 l0 t0 lo0 hi0 a0 x0 y0 z0 ch asd arr st ld F) {ob : Obj} {w7 : World} {v' : Value} {x : Int} (o7 : Own w7 (w.heap.size + 1 + 1 + 1 + 1) 3 1 e64 v' (F.asd ++ [x])) (g7 : (W.alloc ob).grownBy w7 asd.ownBlock) (hob : v'.ownBlock = asd.ownBlock ∨ v'.ownBlock = some (W.alloc ob).heap.size) :
    RndA w (w7.setCell ⟨(w.heap.size + 1 + 1 + 1), 18, none⟩ v') lA ln lc sA sn sc qA qn qc d0 s0 r0 f0 i0 k0 l0 t0 lo0 hi0 a0 x0 y0 z0 ch v' arr st ld { F with asd := F.asd ++ [x] } ∧ Blk w7 (w.heap.size + 1 + 1 + 1) 77 #[.slice lA ln lc, .slice sA sn sc, .slice qA qn qc, .int .i64 d0, .int .i64 s0, .int .i64 r0, .int .i64 f0, .int .i64 i0, .int .i64 k0, .int .i64 l0, .int .i64 t0, .int .i64 lo0, .int .i64 hi0, .int .i64 a0, .int .i64 x0, .int .i64 y0, .int .i64 z0, ch, asd, arr, .int .i64 F.w.beg, st, .int .i64 0, ld, .int .i64 F.w.at_, .int .i64 F.w.buf, .bool F.w.plays, .bool F.w.begun, .int .i64 F.w.stalled] := by
  have h1 := h.ext' (Ext.alloc W ob)
  have hB := fun b (hb : asd.ownBlock = some b) => (h1.fol.lt 1 b hb).1
  refine ⟨h1.turn ((Tw.of_grown g7).trans (Tw.set_ _ _ _ _ _)) hB (h1.fol.app1 o7 g7 hob), h1.fol.blk.grown g7 (fun e => ?_)⟩
  have := hB _ e.symm
  omega
theorem RndA.app2 {W : World} {ch asd arr st ld : Value} {F : FoT} (h : RndA w W lA ln lc sA sn sc qA qn qc d0 s0 r0 f0 i0 k0 l0 t0 lo0 hi0 a0 x0 y0 z0 ch asd arr st ld F) {ob : Obj} {w7 : World} {v' : Value} {x : Int} (o7 : Own w7 (w.heap.size + 1 + 1 + 1 + 1) 3 1 e64 v' (F.arr ++ [x])) (g7 : (W.alloc ob).grownBy w7 arr.ownBlock) (hob : v'.ownBlock = arr.ownBlock ∨ v'.ownBlock = some (W.alloc ob).heap.size) :
    RndA w (w7.setCell ⟨(w.heap.size + 1 + 1 + 1), 19, none⟩ v') lA ln lc sA sn sc qA qn qc d0 s0 r0 f0 i0 k0 l0 t0 lo0 hi0 a0 x0 y0 z0 ch asd v' st ld { F with arr := F.arr ++ [x] } ∧ Blk w7 (w.heap.size + 1 + 1 + 1) 77 #[.slice lA ln lc, .slice sA sn sc, .slice qA qn qc, .int .i64 d0, .int .i64 s0, .int .i64 r0, .int .i64 f0, .int .i64 i0, .int .i64 k0, .int .i64 l0, .int .i64 t0, .int .i64 lo0, .int .i64 hi0, .int .i64 a0, .int .i64 x0, .int .i64 y0, .int .i64 z0, ch, asd, arr, .int .i64 F.w.beg, st, .int .i64 0, ld, .int .i64 F.w.at_, .int .i64 F.w.buf, .bool F.w.plays, .bool F.w.begun, .int .i64 F.w.stalled] := by
  have h1 := h.ext' (Ext.alloc W ob)
  have hB := fun b (hb : arr.ownBlock = some b) => (h1.fol.lt 2 b hb).1
  refine ⟨h1.turn ((Tw.of_grown g7).trans (Tw.set_ _ _ _ _ _)) hB (h1.fol.app2 o7 g7 hob), h1.fol.blk.grown g7 (fun e => ?_)⟩
  have := hB _ e.symm
  omega
theorem RndA.app4 {W : World} {ch asd arr st ld : Value} {F : FoT} (h : RndA w W lA ln lc sA sn sc qA qn qc d0 s0 r0 f0 i0 k0 l0 t0 lo0 hi0 a0 x0 y0 z0 ch asd arr st ld F) {ob : Obj} {w7 : World} {v' : Value} {x : (Int × Int)} (o7 : Own w7 (w.heap.size + 1 + 1 + 1 + 1) 81 2 e2 v' (F.loads ++ [x])) (g7 : (W.alloc ob).grownBy w7 ld.ownBlock) (hob : v'.ownBlock = ld.ownBlock ∨ v'.ownBlock = some (W.alloc ob).heap.size) :
    RndA w (w7.setCell ⟨(w.heap.size + 1 + 1 + 1), 23, none⟩ v') lA ln lc sA sn sc qA qn qc d0 s0 r0 f0 i0 k0 l0 t0 lo0 hi0 a0 x0 y0 z0 ch asd arr st v' { F with loads := F.loads ++ [x] } ∧ Blk w7 (w.heap.size + 1 + 1 + 1) 77 #[.slice lA ln lc, .slice sA sn sc, .slice qA qn qc, .int .i64 d0, .int .i64 s0, .int .i64 r0, .int .i64 f0, .int .i64 i0, .int .i64 k0, .int .i64 l0, .int .i64 t0, .int .i64 lo0, .int .i64 hi0, .int .i64 a0, .int .i64 x0, .int .i64 y0, .int .i64 z0, ch, asd, arr, .int .i64 F.w.beg, st, .int .i64 0, ld, .int .i64 F.w.at_, .int .i64 F.w.buf, .bool F.w.plays, .bool F.w.begun, .int .i64 F.w.stalled] := by
  have h1 := h.ext' (Ext.alloc W ob)
  have hB := fun b (hb : ld.ownBlock = some b) => (h1.fol.lt 4 b hb).1
  refine ⟨h1.turn ((Tw.of_grown g7).trans (Tw.set_ _ _ _ _ _)) hB (h1.fol.app4 o7 g7 hob), h1.fol.blk.grown g7 (fun e => ?_)⟩
  have := hB _ e.symm
  omega
end
end Go.Proofs.YtfelgolfebhmkaaDoor
