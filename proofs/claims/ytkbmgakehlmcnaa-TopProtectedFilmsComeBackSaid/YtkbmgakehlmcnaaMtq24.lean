/- Walk: readTable (program). Conditions as stated. -/
import Derived.Test.YtkbmgakehlmcnaaMtq23
import Derived.Test.YtkbmgakehlmcnaaMtq19
import Derived.Test.YtkbmgakehlmcnaaMtq17
open List (setIfInBounds_toArray set_cons_zero set_cons_succ)
namespace Go.Proofs.Ytkbmgakehlmcnaa
open Go.RowKit
theorem Try.info150 : (Try.prog.info? 150).map (fun i => (i.zero, i.size, i.bytes)) = some (some (.agg #[.int .i64 0, .int .i64 0]), 2, 16) := by kernel_rfl
structure LA {α : Type} (W : World) (base sz : Nat) (enc : α → List Value) (T : Option Addr) (k tc : Nat) (l : List α) : Prop where
  at_ : At W sz enc T k tc l
  lo : ∀ a, T = some a → base ≤ a.block
theorem LA.tw {α : Type} {W W' : World} {base sz o : Nat} {enc : α → List Value} {T : Option Addr} {k tc : Nat} {l : List α} (h : LA W base sz enc T k tc l) (ht : Tw W W' o none) (ho : o < base) : LA W' base sz enc T k tc l :=
  ⟨h.at_.tw ht (fun a ha => ⟨by have := h.lo a ha; omega, by simp⟩), h.lo⟩
theorem LA.tw2 {α : Type} {W W' : World} {base sz o p : Nat} {enc : α → List Value} {T : Option Addr} {k tc : Nat} {l : List α} (h : LA W base sz enc T k tc l) (ht : Tw W W' o (some p)) (ho : o < base) (hp : p < base) : LA W' base sz enc T k tc l :=
  ⟨h.at_.tw ht (fun a ha => by have := h.lo a ha; exact ⟨by omega, fun e => by have := Option.some.inj e; omega⟩), h.lo⟩
theorem tw_ext2 {w W W' : World} {o p : Nat} (h : Ext w W) (ht : Tw W W' o (some p)) (ho : w.heap.size ≤ o) (hp : w.heap.size ≤ p) : Ext w W' :=
  ⟨ht.os.trans h.os, ht.tape.trans h.tape, ht.output.trans h.output, Nat.le_trans h.size ht.size, fun k hk => (ht.block k (Nat.lt_of_lt_of_le hk h.size) (by omega) (fun e => by have := Option.some.inj e; omega)).trans (h.block k hk)⟩
theorem LA.more {α : Type} {W : World} {base base' sz : Nat} {enc : α → List Value} {T : Option Addr} {k tc : Nat} {l : List α} (h : LA W base sz enc T k tc l) (hb : base' ≤ base) : LA W base' sz enc T k tc l := ⟨h.at_, fun a ha => Nat.le_trans hb (h.lo a ha)⟩
theorem LA.nil {α : Type} (W : World) (base sz : Nat) (enc : α → List Value) : LA W base sz enc none 0 0 ([] : List α) := ⟨At.nil _ _ _, fun a h => by cases h⟩
theorem Tw.set7 (W : World) (g : Nat) (u0 u1 u2 u3 u4 u5 u6 : Value) : Tw W (((((((W.setCell ⟨g, 0, none⟩ u0).setCell ⟨g, 1, none⟩ u1).setCell ⟨g, 2, none⟩ u2).setCell ⟨g, 3, none⟩ u3).setCell ⟨g, 4, none⟩ u4).setCell ⟨g, 5, none⟩ u5).setCell ⟨g, 6, none⟩ u6) g none :=
  ((((((Tw.set_ _ _ _ _ _).trans (Tw.set_ _ _ _ _ _)).trans (Tw.set_ _ _ _ _ _)).trans (Tw.set_ _ _ _ _ _)).trans (Tw.set_ _ _ _ _ _)).trans (Tw.set_ _ _ _ _ _)).trans (Tw.set_ _ _ _ _ _)
def SChk (g bT i j : Nat) (v : Value) (x y : Int) (w' : World) : Prop := w'.cell? ⟨g, 5, none⟩ = some v ∧ w'.cell? ⟨bT, i, none⟩ = some (.int .i64 x) ∧ w'.cell? ⟨bT, j, none⟩ = some (.int .i64 y)
theorem SChk.ext {g bT i j : Nat} {v : Value} {x y : Int} {w w' : World} (h : SChk g bT i j v x y w) (he : Ext w w') : SChk g bT i j v x y w' := ⟨he.cell h.1, he.cell h.2.1, he.cell h.2.2⟩
theorem SChk.grown {g bT i j : Nat} {v : Value} {x y : Int} {w w' : World} {row : Option Nat} (h : SChk g bT i j v x y w) (hg : w.grownBy w' row) (h1 : some g ≠ row) (h2 : some bT ≠ row) : SChk g bT i j v x y w' := ⟨hg.cell h.1 h1, hg.cell h.2.1 h2, hg.cell h.2.2 h2⟩
def TbV (W : World) (v : Value) (t : Tab) : Prop :=
  ∃ sA sn sc hA hn hc zA zn zc kA kn kc cA cn cc pA pn pc, v = .agg #[.int .i64 t.start, .slice sA sn sc, .slice hA hn hc, .slice zA zn zc, .slice kA kn kc, .slice cA cn cc, .slice pA pn pc] ∧ TabAt W sA sn sc hA hn hc zA zn zc kA kn kc cA cn cc pA pn pc t
theorem TbV.ext {W W' : World} {v : Value} {t : Tab} (h : TbV W v t) (he : Ext W W') : TbV W' v t := by
  obtain ⟨sA, sn, sc, hA, hn, hc, zA, zn, zc, kA, kn, kc, cA, cn, cc, pA, pn, pc, hv, ht⟩ := h
  exact ⟨sA, sn, sc, hA, hn, hc, zA, zn, zc, kA, kn, kc, cA, cn, cc, pA, pn, pc, hv, ht.ext he⟩
theorem TbV.none_ (W : World) : TbV W (.agg #[.int .i64 0, .slice none 0 0, .slice none 0 0, .slice none 0 0, .slice none 0 0, .slice none 0 0, .slice none 0 0]) noTab :=
  ⟨none, 0, 0, none, 0, 0, none, 0, 0, none, 0, 0, none, 0, 0, none, 0, 0, rfl, At.nil _ _ _, At.nil _ _ _, At.nil _ _ _, At.nil _ _ _, by simp [noTab], At.nil _ _ _, At.nil _ _ _⟩
def TbB (W : World) (B : Nat) (v : Value) (t : Tab) : Prop :=
  ∃ sA sn sc hA hn hc zA zn zc kA kn kc cA cn cc pA pn pc, v = .agg #[.int .i64 t.start, .slice sA sn sc, .slice hA hn hc, .slice zA zn zc, .slice kA kn kc, .slice cA cn cc, .slice pA pn pc] ∧ TabAt W sA sn sc hA hn hc zA zn zc kA kn kc cA cn cc pA pn pc t ∧
    ∀ a : Addr, (sA = some a ∨ hA = some a ∨ zA = some a ∨ kA = some a ∨ cA = some a ∨ pA = some a) → B ≤ a.block
theorem TbB.none_ (W : World) (B : Nat) : TbB W B (.agg #[.int .i64 0, .slice none 0 0, .slice none 0 0, .slice none 0 0, .slice none 0 0, .slice none 0 0, .slice none 0 0]) noTab :=
  ⟨none, 0, 0, none, 0, 0, none, 0, 0, none, 0, 0, none, 0, 0, none, 0, 0, rfl, ⟨At.nil _ _ _, At.nil _ _ _, At.nil _ _ _, At.nil _ _ _, by simp [noTab], At.nil _ _ _, At.nil _ _ _⟩, fun a h => by rcases h with h | h | h | h | h | h <;> cases h⟩
def RtGives (w : World) (t : Tab) (p f : Int) (e : Ending) (w' : World) : Prop := ∃ v, e = .returned (.tuple #[v, .int .i64 p, .int .i64 f]) ∧ TbB w' w.heap.size v t ∧ Ext w w'
structure RtI (w W : World) (A : Option Addr) (n c : Nat) (s : Rd) : Prop where
  ext : Ext w W
  res : Blk W w.heap.size 82 #[.int .i64 0, .slice none 0 0, .slice none 0 0, .slice none 0 0, .slice none 0 0, .slice none 0 0, .slice none 0 0]
  src : Blk W (w.heap.size + 1) 168 (srcC A n c s)
theorem tw_ext' {w W W' : World} {o : Nat} (h : Ext w W) (ht : Tw W W' o none) (ho : w.heap.size ≤ o) : Ext w W' :=
  ⟨ht.os.trans h.os, ht.tape.trans h.tape, ht.output.trans h.output, Nat.le_trans h.size ht.size, fun k hk => (ht.block k (Nat.lt_of_lt_of_le hk h.size) (by omega) (by simp)).trans (h.block k hk)⟩
theorem RtI.call {w W W' : World} {A : Option Addr} {n c : Nat} {s s' : Rd} (h : RtI w W A n c s) (hb : Blk W' (w.heap.size + 1) 168 (srcC A n c s')) (ht : Tw W W' (w.heap.size + 1) none) : RtI w W' A n c s' :=
  ⟨tw_ext' h.ext ht (by omega), ht.blk h.res (by omega) (by simp), hb⟩
theorem RtI.tw {w W W' : World} {A : Option Addr} {n c o : Nat} {s : Rd} (h : RtI w W A n c s) (ht : Tw W W' o none) (ho : w.heap.size + 2 ≤ o) : RtI w W' A n c s :=
  ⟨tw_ext' h.ext ht (by omega), ht.blk h.res (by omega) (by simp), ht.blk h.src (by omega) (by simp)⟩
set_option linter.unusedVariables false in
set_option linter.unusedSimpArgs false in
set_option maxRecDepth 100000 in
set_option maxHeartbeats 16000000 in
theorem keyReadTab_any {A : Option Addr} {n c : Nat} {b : List UInt8} {w : World} (h : At w 1 e8 A n c b) :
    Calls Try.prog 78 #[.slice A n c] w (RtGives w (rtV b) (rtA b) (rtF b)) := by
  have hl := h.len
  have hbd := h.bound
  have HNE : Hid (0 < n → ∀ a, A = some a → a.block ≠ w.heap.size + 1) := hide (fun hn a ha => by have := h.blk_lt len_e8 (by omega) hn a ha; omega)
  have H := hide h
  have HL := hide hl
  clear h
  by_cases hbig : 1000000 < n
  · have HV : Hid (rtV b = noTab ∧ rtA b = 0 ∧ rtF b = 2) := hide (by
      have h1 : rtF b = 2 := by unfold rtF; rw [if_pos (by omega)]
      exact ⟨by unfold rtV; rw [h1, if_neg (by omega)], by unfold rtA; rw [if_pos (by omega)], h1⟩)
    have i0 : (1000000 : Int) < (n : Int) := by omega
    clear hbig hl
    go_enter Try.func78, Try.ntmps78
    go_upto_region 1 with (fail)
    refine gen_wpC fun w0 h0 => ?_
    have E0 : Hid (Ext w w0) := hide (by rw [h0]; exact Ext.alloc _ _)
    have R0 : Hid (Blk w0 w.heap.size 82 #[.int .i64 0, .slice none 0 0, .slice none 0 0, .slice none 0 0, .slice none 0 0, .slice none 0 0, .slice none 0 0]) := hide (by rw [h0]; exact Blk.new _ _ _)
    clear h0
    have z0 := R0.out.frozen 0
    have y0 : w0.cell? ⟨w.heap.size, 0, none⟩ = some (.int .i64 0) := R0.out.cell 0
    have z1 := R0.out.frozen 1
    have y1 : w0.cell? ⟨w.heap.size, 1, none⟩ = some (.slice none 0 0) := R0.out.cell 1
    have z2 := R0.out.frozen 2
    have y2 : w0.cell? ⟨w.heap.size, 2, none⟩ = some (.slice none 0 0) := R0.out.cell 2
    have z3 := R0.out.frozen 3
    have y3 : w0.cell? ⟨w.heap.size, 3, none⟩ = some (.slice none 0 0) := R0.out.cell 3
    have z4 := R0.out.frozen 4
    have y4 : w0.cell? ⟨w.heap.size, 4, none⟩ = some (.slice none 0 0) := R0.out.cell 4
    have z5 := R0.out.frozen 5
    have y5 : w0.cell? ⟨w.heap.size, 5, none⟩ = some (.slice none 0 0) := R0.out.cell 5
    have z6 := R0.out.frozen 6
    have y6 : w0.cell? ⟨w.heap.size, 6, none⟩ = some (.slice none 0 0) := R0.out.cell 6
    go_wp2_with fail
    refine gen_bod fun w8 h8 => ?_
    have T8 : Hid (Tw w0 w8 w.heap.size none) := hide (by rw [h8]; have q7 := Tw.set7 w0 w.heap.size (.int .i64 0) (.slice none 0 0) (.slice none 0 0) (.slice none 0 0) (.slice none 0 0) (.slice none 0 0) (.slice none 0 0); exact q7)
    have R8 : Hid (Blk w8 w.heap.size 82 #[.int .i64 0, .slice none 0 0, .slice none 0 0, .slice none 0 0, .slice none 0 0, .slice none 0 0, .slice none 0 0]) := hide (by rw [h8]; have q7 := (((((((R0.out.set_ 0 (.int .i64 0)).set_ 1 (.slice none 0 0)).set_ 2 (.slice none 0 0)).set_ 3 (.slice none 0 0)).set_ 4 (.slice none 0 0)).set_ 5 (.slice none 0 0)).set_ 6 (.slice none 0 0)); exact q7)
    have k0 : w8.cell? ⟨w.heap.size, 0, none⟩ = some (.int .i64 0) := R8.out.cell 0
    have k1 : w8.cell? ⟨w.heap.size, 1, none⟩ = some (.slice none 0 0) := R8.out.cell 1
    have k2 : w8.cell? ⟨w.heap.size, 2, none⟩ = some (.slice none 0 0) := R8.out.cell 2
    have k3 : w8.cell? ⟨w.heap.size, 3, none⟩ = some (.slice none 0 0) := R8.out.cell 3
    have k4 : w8.cell? ⟨w.heap.size, 4, none⟩ = some (.slice none 0 0) := R8.out.cell 4
    have k5 : w8.cell? ⟨w.heap.size, 5, none⟩ = some (.slice none 0 0) := R8.out.cell 5
    have k6 : w8.cell? ⟨w.heap.size, 6, none⟩ = some (.slice none 0 0) := R8.out.cell 6
    refine bodyPost_ret (v := .tuple #[.agg #[.int .i64 0, .slice none 0 0, .slice none 0 0, .slice none 0 0, .slice none 0 0, .slice none 0 0, .slice none 0 0], .int .i64 0, .int .i64 2]) (by simp [results, Try.results78, go_sem, k0, k1, k2, k3, k4, k5, k6]) rfl ?_
    rw [HV.out.1, HV.out.2.1, HV.out.2.2]
    exact ⟨_, rfl, TbB.none_ _ _, tw_ext' E0.out T8.out (Nat.le_refl _)⟩
  have HN1 : Hid (n ≤ 1000000) := hide (by omega)
  have hnn : ¬ (1000000 : Int) < (n : Int) := by omega
  have hp := r_pos b
  rw [hl] at hp
  have HP := hide hp
  have HFEW := hide (r_few b)
  have HC0 := hide (fun (W : World) (hI : RtI w W A n c ⟨0, false⟩) => srcN 8 8 rfl hI.src (H.out.ext hI.ext) HNE.out (Nat.zero_le _) (by omega))
  have HRN := hide (fun (W : World) (s : Rd) (hI : RtI w W A n c s) (hs : s.pos ≤ n) => srcRuns_any hI.src (H.out.ext hI.ext) HNE.out hs HN1.out)
  have HL1 := hide (fun (W : World) (s : Rd) (hI : RtI w W A n c s) (hs : s.pos ≤ n) => srcList_any hI.src (H.out.ext hI.ext) HNE.out hs (each := 1) (z := 1) rfl (by omega))
  have HL2 := hide (fun (W : World) (s : Rd) (hI : RtI w W A n c s) (hs : s.pos ≤ n) => srcList_any hI.src (H.out.ext hI.ext) HNE.out hs (each := 2) (z := 2) rfl (by omega))
  have HFL := hide (fun (W : World) (s : Rd) (hI : RtI w W A n c s) (hs : s.pos ≤ n) => srcFl 1 1 rfl hI.src (H.out.ext hI.ext) HNE.out hs (by omega))
  have HEN := hide (fun (W : World) (s : Rd) (hI : RtI w W A n c s) => srcEnd_any hI.src (H.out.ext hI.ext))
  have HST : Hid (IntKind.i64.wrap ((r0F b).1 : Int) = (rtT b).start) := hide rfl
  obtain ⟨i0_, hi0, hz0, hz1, hz2⟩ := info_parts Try.info3
  obtain ⟨j0_, hj0, hy0, hy1, hy2⟩ := info_parts Try.info150
  clear hp hbig hl
  go_enter Try.func78, Try.ntmps78
  go_upto_region 4 with (fail)
  refine gen_wpC fun w1 h1 => ?_
  have I1 : Hid (RtI w w1 A n c ⟨0, false⟩) := hide (by
    rw [h1]
    refine ⟨Ext.trans (Ext.alloc _ _) (Ext.alloc _ _), (Blk.new _ _ _).alloc _, ?_⟩
    have := Blk.new (w.alloc (.cells #[.int .i64 0, .slice none 0 0, .slice none 0 0, .slice none 0 0, .slice none 0 0, .slice none 0 0, .slice none 0 0] 82)) 168 (srcC A n c ⟨0, false⟩)
    rw [World.size_alloc] at this
    exact this)
  clear h1
  go_wp2_with fail
  with_reducible refine (HC0.out _ I1.out).mono ?_
  rintro e w2 ⟨rfl, b2, t2⟩
  have I2 : Hid (RtI w w2 A n c (r0F b).2) := hide (I1.out.call b2 t2)
  have u0 : IntKind.i64.wrap ((rdN b 8 ⟨0, false⟩).1 : Int) = (rtT b).start := HST.out
  clear b2 t2 I1 HC0
  go_upto_region 5 with (fail)
  refine gen_wpC fun w3 h3 => ?_
  obtain ⟨gf, hgf⟩ : ∃ gf, gf = w2.heap.size := ⟨_, rfl⟩
  rw [← hgf]
  have F3 : Hid (Blk w3 gf 82 #[.int .i64 (rtT b).start, .slice none 0 0, .slice none 0 0, .slice none 0 0, .slice none 0 0, .slice none 0 0, .slice none 0 0]) := hide (by rw [h3, hgf]; exact Blk.new _ _ _)
  have I3 : Hid (RtI w w3 A n c (r0F b).2) := hide (by rw [h3]; exact I2.out.tw (Tw.of_ext (Ext.alloc _ _) w2.heap.size none) I2.out.src.lt)
  have hgw : w.heap.size + 2 ≤ gf := by rw [hgf]; exact I2.out.src.lt
  clear h3 hgf I2 u0
  go_wp2_with fail
  with_reducible refine (HRN.out _ _ I3.out HP.out.1).mono ?_
  rintro e w4 ⟨S, sn, sc, rfl, a4, b4, t4, l4⟩
  have I4 : Hid (RtI w w4 A n c (r1F b).2) := hide (I3.out.call b4 t4)
  have F4 := hide (t4.blk F3.out (by omega) (by simp))
  have L1_4 : Hid (LA w4 (gf + 1) 2 e2 S sn sc (prL (r1F b).1)) := hide ⟨a4, fun a ha => by have := l4 a ha; have := F3.out.lt; omega⟩
  have gc : w4.cell? ⟨gf, 1, none⟩ = some (.slice none 0 0) := F4.out.cell 1
  have gz := F4.out.frozen 1
  clear a4 b4 t4 l4 I3 F3
  go_upto_region 6 with (fail)
  refine gen_wpC fun w5 h5 => ?_
  have S5 : Hid (Tw w4 w5 gf none) := hide (by rw [h5]; exact Tw.set_ _ _ _ _ _)
  have I5 := hide (I4.out.tw S5.out hgw)
  have F5 : Hid (Blk w5 gf 82 #[.int .i64 (rtT b).start, .slice S sn sc, .slice none 0 0, .slice none 0 0, .slice none 0 0, .slice none 0 0, .slice none 0 0]) := hide (by rw [h5]; exact F4.out.set_ 1 _)
  have L1_5 := hide (L1_4.out.tw S5.out (by omega))
  clear h5 S5 I4 F4 gc gz L1_4
  go_wp2_with fail
  with_reducible refine (HRN.out _ _ I5.out HP.out.2.1).mono ?_
  rintro e w6 ⟨H_, h_n, h_c, rfl, a6, b6, t6, l6⟩
  have I6 : Hid (RtI w w6 A n c (r2F b).2) := hide (I5.out.call b6 t6)
  have F6 := hide (t6.blk F5.out (by omega) (by simp))
  have L2_6 : Hid (LA w6 (gf + 1) 2 e2 H_ h_n h_c (prL (r2F b).1)) := hide ⟨a6, fun a ha => by have := l6 a ha; have := F5.out.lt; omega⟩
  have L1_6 := hide (L1_5.out.tw t6 (by omega))
  have gc : w6.cell? ⟨gf, 2, none⟩ = some (.slice none 0 0) := F6.out.cell 2
  have gz := F6.out.frozen 2
  clear a6 b6 t6 l6 I5 F5
  go_upto_region 7 with (fail)
  refine gen_wpC fun w7 h7 => ?_
  have S7 : Hid (Tw w6 w7 gf none) := hide (by rw [h7]; exact Tw.set_ _ _ _ _ _)
  have I7 := hide (I6.out.tw S7.out hgw)
  have F7 : Hid (Blk w7 gf 82 #[.int .i64 (rtT b).start, .slice S sn sc, .slice H_ h_n h_c, .slice none 0 0, .slice none 0 0, .slice none 0 0, .slice none 0 0]) := hide (by rw [h7]; exact F6.out.set_ 2 _)
  have L1_7 := hide (L1_6.out.tw S7.out (by omega))
  have L2_7 := hide (L2_6.out.tw S7.out (by omega))
  clear h7 S7 I6 F6 gc gz L1_6 L2_6
  go_wp2_with fail
  with_reducible refine (HL1.out _ _ I7.out HP.out.2.2.1).mono ?_
  rintro e w8 ⟨Z, zn, zc, rfl, a8, b8, t8, l8⟩
  have I8 : Hid (RtI w w8 A n c (r3F b).2) := hide (I7.out.call b8 t8)
  have F8 := hide (t8.blk F7.out (by omega) (by simp))
  have L3_8 : Hid (LA w8 (gf + 1) 1 e64 Z zn zc (r3F b).1) := hide ⟨a8, fun a ha => by have := l8 a ha; have := F7.out.lt; omega⟩
  have L1_8 := hide (L1_7.out.tw t8 (by omega))
  have L2_8 := hide (L2_7.out.tw t8 (by omega))
  have gc : w8.cell? ⟨gf, 3, none⟩ = some (.slice none 0 0) := F8.out.cell 3
  have gz := F8.out.frozen 3
  clear a8 b8 t8 l8 I7 F7
  go_upto_region 8 with (fail)
  refine gen_wpC fun w9 h9 => ?_
  have S9 : Hid (Tw w8 w9 gf none) := hide (by rw [h9]; exact Tw.set_ _ _ _ _ _)
  have I9 := hide (I8.out.tw S9.out hgw)
  have F9 : Hid (Blk w9 gf 82 #[.int .i64 (rtT b).start, .slice S sn sc, .slice H_ h_n h_c, .slice Z zn zc, .slice none 0 0, .slice none 0 0, .slice none 0 0]) := hide (by rw [h9]; exact F8.out.set_ 3 _)
  have L1_9 := hide (L1_8.out.tw S9.out (by omega))
  have L2_9 := hide (L2_8.out.tw S9.out (by omega))
  have L3_9 := hide (L3_8.out.tw S9.out (by omega))
  clear h9 S9 I8 F8 gc gz L1_8 L2_8 L3_8
  go_cut [38] (fun sv wx => sv = .bool (hasK b) ∧ Hid (RtI w wx A n c (r4F b).2) ∧ Hid (Blk wx gf 82 #[.int .i64 (rtT b).start, .slice S sn sc, .slice H_ h_n h_c, .slice Z zn zc, .slice none 0 0, .slice none 0 0, .slice none 0 0]) ∧ Hid (LA wx (gf + 1) 2 e2 S sn sc (prL (r1F b).1)) ∧ Hid (LA wx (gf + 1) 2 e2 H_ h_n h_c (prL (r2F b).1)) ∧ Hid (LA wx (gf + 1) 1 e64 Z zn zc (r3F b).1))
  case first =>
    go_wp2_with fail
    with_reducible refine (HFL.out _ _ I9.out HP.out.2.2.2.1).mono ?_
    rintro e wf ⟨rfl, bf, tf⟩
    have If : Hid (RtI w wf A n c (r4F b).2) := hide (I9.out.call bf tf)
    have Ff := hide (tf.blk F9.out (by omega) (by simp))
    have L1_f := hide (L1_9.out.tw tf (by omega))
    have L2_f := hide (L2_9.out.tw tf (by omega))
    have L3_f := hide (L3_9.out.tw tf (by omega))
    have x2 : wf.cell? ⟨w.heap.size + 1, 2, none⟩ = some (.bool (r4F b).2.bad) := If.out.src.cell 2
    have e4 : (rdF b 1 (r3F b).2).1 = (r4F b).1 := rfl
    rw [e4]
    have HK : Hid (hasK b = (decide ((r4F b).1 = 1) && !(r4F b).2.bad)) := hide rfl
    clear bf tf e4 I9 F9
    by_cases hc1 : (r4F b).1 = 1
    · have d0 : (((r4F b).1 : Int) == 1) = true := by rw [beq_iff_eq]; omega
      have HK2 : Hid (hasK b = !(r4F b).2.bad) := hide (by rw [HK.out, hc1]; simp)
      clear hc1
      go_wp2_with fail
      go_meet
      exact ⟨by rw [HK2.out], If, Ff, L1_f, L2_f, L3_f⟩
    · have d0 : (((r4F b).1 : Int) == 1) = false := by rw [beq_eq_false_iff_ne]; omega
      have HK2 : Hid (hasK b = false) := hide (by rw [HK.out]; simp [hc1])
      clear hc1
      go_wp2_with fail
      go_meet
      exact ⟨by rw [HK2.out], If, Ff, L1_f, L2_f, L3_f⟩
  case rest =>
  obtain ⟨rfl, Ik, Fk, L1_k, L2_k, L3_k⟩ := hcut
  obtain ⟨wk, hwk⟩ : ∃ wk, wk = wc := ⟨_, rfl⟩
  subst hwk
  clear I9 F9 L1_9 L2_9 L3_9
  go_upto_if 38 with (fail)
  go_cut [] (fun wx => ∃ kA kn kc, Hid (RtI w wx A n c (r5F b).2) ∧ Hid (Blk wx gf 82 #[.int .i64 (rtT b).start, .slice S sn sc, .slice H_ h_n h_c, .slice Z zn zc, .slice kA kn kc, .slice none 0 0, .slice none 0 0]) ∧ Hid (LA wx (gf + 1) 2 e2 S sn sc (prL (r1F b).1)) ∧ Hid (LA wx (gf + 1) 2 e2 H_ h_n h_c (prL (r2F b).1)) ∧ Hid (LA wx (gf + 1) 1 e64 Z zn zc (r3F b).1) ∧ Hid (LA wx (gf + 1) 1 e64 kA kn kc (r5F b).1) ∧ Hid (kA = none ↔ hasK b = false))
  case first =>
    have hgl : gf < wk.heap.size := Fk.out.lt
    cases hk : hasK b with
    | false =>
      have HR5 : Hid (r5F b = ([], (r4F b).2)) := hide (by unfold r5F; rw [hk, if_neg (by simp)])
      have HKF := hide hk
      go_wp2_with fail
      go_meet
      exact ⟨none, 0, 0, hide (by rw [HR5.out]; exact Ik.out), Fk, L1_k, L2_k, L3_k, hide (by rw [HR5.out]; exact LA.nil _ _ _ _), hide (by simp [HKF.out])⟩
    | true =>
      have HR5 : Hid (r5F b = lsF b 1 (r4F b).2) := hide (by unfold r5F; rw [hk, if_pos rfl])
      have hk9 := hide hk
      have IA := hide (Ik.out.tw (Tw.of_ext (Ext.alloc wk (.cells #[] 3)) wk.heap.size none) (by omega))
      have FA := hide (Fk.out.alloc (.cells #[] 3))
      have O0 : Hid (Own (wk.alloc (.cells #[] 3)) wk.heap.size 3 1 e64 (.slice (some ⟨wk.heap.size, 0, none⟩) 0 0) []) := hide ⟨by simp, .inr ⟨wk.heap.size, 0, #[], rfl, Nat.le_refl _, heap_alloc_new wk _, Nat.le_refl _, by unfold maxLen; omega, rfl, rfl⟩⟩
      clear hk
      go_wp2_with fail
      with_reducible refine (HL1.out _ _ IA.out HP.out.2.2.2.2.1).mono ?_
      rintro e wb ⟨T, k, tc, rfl, ab, bb, tb, lb⟩
      have IB := hide (IA.out.call bb tb)
      have FB := hide (tb.blk FA.out (by omega) (by simp))
      have OB := hide (O0.out.tw tb (fun e => by have e2 : wk.heap.size = _ := Option.some.inj e; omega) (fun g _ e => by cases e))
      have hlk := ab.len
      have hfw := HFEW.out.2.2.2.1
      rw [HR5.out] at hfw
      have hn1 := HN1.out
      have hll := HL.out
      have AB := hide ab
      have S1 : Hid (([] : List Int).length + k ≤ maxLen) := hide (by simp; unfold maxLen; omega)
      have S2 : Hid ((([] : List Int).length + k) * 8 ≤ 140737488355328) := hide (by simp; omega)
      have S3 : Hid (wk.heap.size ≤ wb.heap.size) := hide (by have := tb.size; rw [World.size_alloc] at this; omega)
      have TBk : Hid (Tw wk wb (w.heap.size + 1) none) := hide ((Tw.of_ext (Ext.alloc _ _) _ _).trans tb)
      have HGF : Hid (∀ W' : World, wb.grownBy W' (Value.slice (some ⟨wk.heap.size, 0, none⟩) 0 0).ownBlock → Blk W' gf 82 #[.int .i64 (rtT b).start, .slice S sn sc, .slice H_ h_n h_c, .slice Z zn zc, .slice none 0 0, .slice none 0 0, .slice none 0 0]) := hide (fun W' hg => FB.out.grown hg (fun e => by have e2 : gf = wk.heap.size := Option.some.inj e; omega))
      clear ab bb tb lb hlk hfw
      go_wp2_with (at_builtin; (refine wpList_append_at _ rfl (.tmp 39) (.tmp 41) 79 rfl wk.heap.size 3 i0_ _ 8 Try.underlying79 hi0 hz0 hz1 hz2 rfl (by omega) len_e64 one_e64 _ _ (by rfl) OB.out T k tc _ (by rfl) AB.out S1.out S2.out S3.out ?_); intro v7 w7 o7 g7 n7 _; have O7 := hide o7; have G7 := hide g7; have N7 := hide n7; clear o7 g7 n7; obtain ⟨A7, c7, hv7, h7⟩ := O7.out.at_ len_e64; subst hv7; have H7 := hide h7; clear h7; have F7 := HGF.out _ G7.out; have gz7 := F7.frozen 4; have gc7 : w7.cell? ⟨gf, 4, none⟩ = some (.slice none 0 0) := F7.cell 4; have F7h := hide F7; clear F7)
      go_meet
      have hwb : wk.heap.size ≤ wb.heap.size := S3.out
      have hnz : A7 ≠ none := fun e => by
        subst e
        have h9 := H7.out.none_ rfl
        have h8 := H7.out.le
        have h7 := N7.out.1 (by rw [h9, show (([] : List Int) ++ (lsF b 1 (r4F b).2).1).length = 0 by omega])
        have h6 := h7.1
        injection h6 with h5
        cases h5
      have hlo := O7.out.lt
      have TK : Hid (Tw wk (w7.setCell ⟨gf, 4, none⟩ (.slice A7 ([] ++ (lsF b 1 (r4F b).2).1).length c7)) gf (some (w.heap.size + 1))) := hide ⟨G7.out.os.trans TBk.out.os, G7.out.tape.trans TBk.out.tape, G7.out.output.trans TBk.out.output, by
          have h1 := TBk.out.size
          have h2 := G7.out.size
          simp [World.setCell]; omega, fun q hq1 hq2 hq3 => (Below.heap_setCell w7 ⟨gf, 4, none⟩ _ q (by show q ≠ gf; exact hq2)).trans ((G7.out.block q (by omega) (fun e => by have e2 : q = wk.heap.size := Option.some.inj e; omega)).trans (TBk.out.block q hq1 (fun e => hq3 (by rw [e])) (by simp)))⟩
      refine ⟨A7, _, c7, hide ⟨tw_ext2 Ik.out.ext TK.out (by omega) (by omega), TK.out.blk Ik.out.res (by omega) (fun e => by have := Option.some.inj e; omega), ?_⟩, hide (F7h.out.set_ 4 _), hide (L1_k.out.tw2 TK.out (by omega) (by omega)), hide (L2_k.out.tw2 TK.out (by omega) (by omega)), hide (L3_k.out.tw2 TK.out (by omega) (by omega)), hide ⟨?_, fun a ha => by subst ha; have := (hlo a.block rfl).1; omega⟩, hide ⟨fun e => absurd e hnz, fun e => by rw [hk9.out] at e; cases e⟩⟩
      · rw [HR5.out]
        exact (IB.out.src.grown G7.out (fun e => by have e2 : w.heap.size + 1 = wk.heap.size := Option.some.inj e; omega)).far (show w.heap.size + 1 ≠ gf by omega) _
      · rw [HR5.out]
        have h9 := H7.out.tw (Tw.set_ w7 gf 4 (.slice A7 ([] ++ (lsF b 1 (r4F b).2).1).length c7) none) (fun a ha => ⟨by subst ha; have := (hlo a.block rfl).1; omega, by simp⟩)
        rw [List.nil_append] at h9
        exact h9
  case rest =>
  obtain ⟨kA, kn, kc, IR, FR, L1_r, L2_r, L3_r, L4_r, HKN⟩ := hcut
  obtain ⟨wm, hwm⟩ : ∃ wm, wm = wc := ⟨_, rfl⟩
  subst hwm
  clear Ik Fk L1_k L2_k L3_k
  go_wp2_with fail
  with_reducible refine (HL2.out _ _ IR.out HP.out.2.2.2.2.2.1).mono ?_
  rintro e wn ⟨T, N, tc, rfl, an, bn, tn, ln⟩
  have IN : Hid (RtI w wn A n c (r6F b).2) := hide (IR.out.call bn tn)
  have FN := hide (tn.blk FR.out (by omega) (by simp))
  have L5 : Hid (LA wn (gf + 1) 1 e64 T N tc (r6F b).1) := hide ⟨an, fun a ha => by have := ln a ha; have := FR.out.lt; omega⟩
  have L1_n := hide (L1_r.out.tw tn (by omega))
  have L2_n := hide (L2_r.out.tw tn (by omega))
  have L3_n := hide (L3_r.out.tw tn (by omega))
  have L4_n := hide (L4_r.out.tw tn (by omega))
  have HNL : Hid ((r6F b).1.length = N) := hide an.len
  have hfew := HFEW.out.2.2.2.2.1
  have hnl := an.len
  have hn1 := HN1.out
  have hll := HL.out
  have hfew2 : N * 8 ≤ n := by have h1 : (r6F b).1.length = N := hnl; omega
  clear hfew
  have hgn : gf < wn.heap.size := FN.out.lt
  clear an bn tn ln IR FR L1_r L2_r L3_r L4_r hnl hll
  obtain ⟨l, hl⟩ : ∃ l, l = (r6F b).1 := ⟨_, rfl⟩
  rw [← hl] at L5 HNL
  have HLL := hide hl
  clear hl
  go_wp2_with fail
  go_loopw [8] (fun ri wr => ∃ (k i : Nat) (v : Value), i = 2 * k ∧ k ≤ N / 2 ∧ ri = .int .i64 i ∧ Hid (Own wr wn.heap.size 150 2 e2 v (prK l k)) ∧ Hid (Blk wr gf 82 #[.int .i64 (rtT b).start, .slice S sn sc, .slice H_ h_n h_c, .slice Z zn zc, .slice kA kn kc, v, .slice none 0 0]) ∧ Hid (Tw wn wr gf none)) (fun ri _ => N + 2 - (intOf ri).toNat)
  case atStart => exact ⟨0, 0, _, rfl, Nat.zero_le _, rfl, hide (Own.nil _ _ _ _ _), FN, hide (Tw.refl _ _ _)⟩
  case round =>
    obtain ⟨k, i, v, hik, hk, rfl, HO, HF, HT⟩ := hrel
    have i8 : IntKind.i64.wrap ((i : Int) + 1) = (i : Int) + 1 := by rw [IntKind.wrap_i64]; omega
    have i9 : IntKind.i64.wrap ((i : Int) + 2) = (i : Int) + 2 := by rw [IntKind.wrap_i64]; omega
    obtain ⟨vA, vc, hv, hat⟩ := HO.out.at_ len_e2
    have HAT := hide hat
    have HLT := HO.out.lt
    subst hv
    clear hat
    by_cases hlt : i + 1 < N
    · obtain ⟨bT, oT, rfl, _⟩ := L5.out.at_.addr (by omega)
      have hat := (L5.out.tw HT.out (by omega)).at_
      have hbT := L5.out.lo _ rfl
      have hbL := L5.out.at_.blk_lt len_e64 (by omega) (by omega) _ rfl
      have a0 := hat.num (k := i) (by omega)
      have a1 := hat.num (k := i + 1) (by omega)
      have HSU : Hid (prK l (k + 1) = prK l k ++ [(l.getD i 0, l.getD (i + 1) 0)]) := hide (by rw [prK_succ, hik])
      generalize l.getD i 0 = x at *
      generalize l.getD (i + 1) 0 = y at *
      have x5 : wr.cell? ⟨gf, 5, none⟩ = some (.slice vA (prK l k).length vc) := HF.out.cell 5
      have z5 := HF.out.frozen 5
      have i1 : (i : Int) + 1 < (N : Int) := by omega
      have i2 : (i : Int) < (N : Int) := by omega
      have i0 : (0 : Int) ≤ (i : Int) := by omega
      have i3 : ((i : Int) + 1).toNat = i + 1 := by omega
      have i4 : (0 : Int) ≤ (i : Int) + 1 := by omega
      have hlk : (prK l k).length = k := prK_len _ _
      have S1 : Hid ((prK l k).length + 1 ≤ maxLen) := hide (by rw [hlk]; unfold maxLen; omega)
      have S2 : Hid (((prK l k).length + 1) * 16 ≤ 140737488355328) := hide (by rw [hlk]; omega)
      have S3 : Hid (wn.heap.size ≤ (wr.drew.alloc (.cells #[.int .i64 x, .int .i64 y] 150)).heap.size) := hide (by have := HT.out.size; rw [World.size_alloc]; show wn.heap.size ≤ wr.heap.size + 1; omega)
      have HK := hide (And.intro hik (half_lt hik hlt))
      clear hat hlk hik
      go_upto_region 14 with (fail)
      have hS : SChk gf bT (oT + i) (oT + (i + 1)) (.slice vA (prK l k).length vc) x y wr := ⟨x5, a0, a1⟩
      have hS0 := hS.ext (Ext.drew wr)
      have HS6 := hide hS
      have HFb := hide (fun (W' : World) (hg : ((wr.alloc (.cells #[.int .i64 x, .int .i64 y] 150)).drew).grownBy W' (Value.slice vA (prK l k).length vc).ownBlock) => ((HF.out.alloc (.cells #[.int .i64 x, .int .i64 y] 150)).drew).grown hg (fun e => by have := (HLT _ e.symm).1; omega))
      have HLNE : Hid (∀ m, m < wn.heap.size → some m ≠ (Value.slice vA (prK l k).length vc).ownBlock) := hide (fun m hm e => by have := (HLT _ e.symm).1; omega)
      clear hS
      refine region_z (S := SChk gf bT (oT + i) (oT + (i + 1)) (.slice vA (prK l k).length vc) x y) 14 (by kernel_rfl) ?_
      refine AnyZ.takeE (i := 0) (d := 53) (oi := _) (v := ?_) rfl rfl rfl (by kernel_rfl) (by kernel_rfl) (by kernel_rfl) (by kernel_rfl) (by kernel_rfl) (by kernel_rfl) (fun _ _ _ h => h) (Or.inl ⟨by rfl, ?_⟩) hS0 ?_
      rotate_left
      · intro W hW; obtain ⟨s1, s2, s3⟩ := hW; first | (go_simp; done) | (go_simp; with_reducible rfl)
      simp only [Act.put, setIfInBounds_toArray, set_cons_zero, set_cons_succ]
      refine AnyZ.takeE (i := 1) (d := 54) (oi := _) (v := ?_) rfl rfl rfl (by kernel_rfl) (by kernel_rfl) (by kernel_rfl) (by kernel_rfl) (by kernel_rfl) (by kernel_rfl) (fun _ _ _ h => h) (Or.inl ⟨by rfl, ?_⟩) hS0 ?_
      rotate_left
      · intro W hW; obtain ⟨s1, s2, s3⟩ := hW; first | (go_simp; done) | (go_simp; with_reducible rfl)
      simp only [Act.put, setIfInBounds_toArray, set_cons_zero, set_cons_succ]
      refine AnyZ.takeE (i := 2) (d := 55) (oi := _) (v := ?_) rfl rfl rfl (by kernel_rfl) (by kernel_rfl) (by kernel_rfl) (by kernel_rfl) (by kernel_rfl) (by kernel_rfl) (fun _ _ _ h => h) (Or.inl ⟨by rfl, ?_⟩) hS0 ?_
      rotate_left
      · intro W hW; obtain ⟨s1, s2, s3⟩ := hW; first | (go_simp; done) | (go_simp; with_reducible rfl)
      simp only [Act.put, setIfInBounds_toArray, set_cons_zero, set_cons_succ]
      refine AnyZ.takeE (i := 3) (d := 56) (oi := _) (v := ?_) rfl rfl rfl (by kernel_rfl) (by kernel_rfl) (by kernel_rfl) (by kernel_rfl) (by kernel_rfl) (by kernel_rfl) (fun _ _ _ h => h) (Or.inl ⟨by rfl, ?_⟩) hS0 ?_
      rotate_left
      · intro W hW; obtain ⟨s1, s2, s3⟩ := hW; first | (go_simp; done) | (go_simp; with_reducible rfl)
      simp only [Act.put, setIfInBounds_toArray, set_cons_zero, set_cons_succ]
      refine AnyZ.takeE (i := 4) (d := 57) (oi := _) (v := ?_) rfl rfl rfl (by kernel_rfl) (by kernel_rfl) (by kernel_rfl) (by kernel_rfl) (by kernel_rfl) (by kernel_rfl) (fun _ _ _ h => h) (Or.inl ⟨by rfl, ?_⟩) hS0 ?_
      rotate_left
      · intro W hW; obtain ⟨s1, s2, s3⟩ := hW; first | (go_simp; done) | (go_simp; with_reducible rfl)
      simp only [Act.put, setIfInBounds_toArray, set_cons_zero, set_cons_succ]
      refine AnyZ.takeE (i := 5) (d := 58) (oi := _) (v := ?_) rfl rfl rfl (by kernel_rfl) (by kernel_rfl) (by kernel_rfl) (by kernel_rfl) (by kernel_rfl) (by kernel_rfl) (fun _ _ _ h => h) (Or.inl ⟨by rfl, ?_⟩) hS0 ?_
      rotate_left
      · intro W hW; obtain ⟨s1, s2, s3⟩ := hW; first | (go_simp; done) | (go_simp; with_reducible rfl)
      simp only [Act.put, setIfInBounds_toArray, set_cons_zero, set_cons_succ]
      refine AnyZ.takeE (i := 6) (d := 59) (oi := _) (v := ?_) rfl rfl rfl (by kernel_rfl) (by kernel_rfl) (by kernel_rfl) (by kernel_rfl) (by kernel_rfl) (by kernel_rfl) (fun _ _ _ h => h) (Or.inl ⟨by rfl, ?_⟩) hS0 ?_
      rotate_left
      · intro W hW; obtain ⟨s1, s2, s3⟩ := hW; first | (go_simp; done) | (go_simp; with_reducible rfl)
      simp only [Act.put, setIfInBounds_toArray, set_cons_zero, set_cons_succ]
      refine AnyZ.takeE (i := 7) (d := 60) (oi := _) (v := ?_) rfl rfl rfl (by kernel_rfl) (by kernel_rfl) (by kernel_rfl) (by kernel_rfl) (by kernel_rfl) (by kernel_rfl) (fun _ _ _ h => h) (Or.inl ⟨by rfl, ?_⟩) hS0 ?_
      rotate_left
      · intro W hW; obtain ⟨s1, s2, s3⟩ := hW; first | (go_simp; done) | (go_simp; with_reducible rfl)
      simp only [Act.put, setIfInBounds_toArray, set_cons_zero, set_cons_succ]
      refine AnyZ.takeE (i := 8) (d := 61) (oi := _) (v := ?_) rfl rfl rfl (by kernel_rfl) (by kernel_rfl) (by kernel_rfl) (by kernel_rfl) (by kernel_rfl) (by kernel_rfl) (fun _ _ _ h => h) (Or.inl ⟨by rfl, ?_⟩) hS0 ?_
      rotate_left
      · intro W hW; obtain ⟨s1, s2, s3⟩ := hW; first | (go_simp; done) | (go_simp; with_reducible rfl)
      simp only [Act.put, setIfInBounds_toArray, set_cons_zero, set_cons_succ]
      refine AnyZ.takeE (i := 9) (d := 62) (oi := _) (v := ?_) rfl rfl rfl (by kernel_rfl) (by kernel_rfl) (by kernel_rfl) (by kernel_rfl) (by kernel_rfl) (by kernel_rfl) (fun _ _ _ h => h) (Or.inl ⟨by rfl, ?_⟩) hS0 ?_
      rotate_left
      · intro W hW; obtain ⟨s1, s2, s3⟩ := hW; first | (go_simp; done) | (go_simp; with_reducible rfl)
      simp only [Act.put, setIfInBounds_toArray, set_cons_zero, set_cons_succ]
      refine AnyZ.takeE (i := 10) (d := 63) (oi := _) (v := ?_) rfl rfl rfl (by kernel_rfl) (by kernel_rfl) (by kernel_rfl) (by kernel_rfl) (by kernel_rfl) (by kernel_rfl) (fun _ _ _ h => h) (Or.inl ⟨by rfl, ?_⟩) hS0 ?_
      rotate_left
      · intro W hW; obtain ⟨s1, s2, s3⟩ := hW; first | (go_simp; done) | (go_simp; with_reducible rfl)
      simp only [Act.put, setIfInBounds_toArray, set_cons_zero, set_cons_succ]
      refine AnyZ.takeE (i := 11) (d := 64) (oi := _) (v := ?_) rfl rfl rfl (by kernel_rfl) (by kernel_rfl) (by kernel_rfl) (by kernel_rfl) (by kernel_rfl) (by kernel_rfl) (fun _ _ _ h => h) (Or.inl ⟨by rfl, ?_⟩) hS0 ?_
      rotate_left
      · intro W hW; obtain ⟨s1, s2, s3⟩ := hW; first | (go_simp; done) | (go_simp; with_reducible rfl)
      simp only [Act.put, setIfInBounds_toArray, set_cons_zero, set_cons_succ]
      refine AnyZ.step (i := 12) rfl (by kernel_rfl) (fun K hK => ?_)
      go_simp
      refine hK.out _ _ (fun _ => ?_) ?_
      · exact HS6.out.ext (by repeat' (first | (with_reducible first | exact Below.refl _ _ | assumption | refine below_drewN ?_ _ | refine Below.drew ?_ | refine ext_alloc ?_ _ | refine Below.setCell ?_ ?_ _) | go_size))
      clear hK K
      refine AnyZ.step (i := 13) rfl (by kernel_rfl) (fun K hK => ?_)
      refine step_append_at rfl _ _ 80 rfl wn.heap.size 150 j0_ _ 16 Try.underlying80 hj0 hy0 hy1 hy2 rfl (by omega) len_e2 one_e2 _ _ (by rfl) (HO.out.ext (by repeat' (first | (with_reducible first | exact Below.refl _ _ | assumption | refine below_drewN ?_ _ | refine Below.drew ?_ | refine ext_alloc ?_ _ | refine Below.setCell ?_ ?_ _) | go_size))) (some ⟨wr.heap.size, 0, none⟩) 1 1 [(x, y)] (by simp [Act.eval]) ((At.pair1 wr x y _).ext (by repeat' (first | (with_reducible first | exact Below.refl _ _ | assumption | refine below_drewN ?_ _ | refine Below.drew ?_ | refine ext_alloc ?_ _ | refine Below.setCell ?_ ?_ _) | go_size))) S1.out S2.out (by have := S3.out; exact this) ?_
      intro v7 w7 o7 g7 _ _
      have S7 := hide ((HS6.out.ext (by repeat' (first | (with_reducible first | exact Below.refl _ _ | assumption | refine below_drewN ?_ _ | refine Below.drew ?_ | refine ext_alloc ?_ _ | refine Below.setCell ?_ ?_ _) | go_size))).grown g7 (HLNE.out gf hgn) (HLNE.out bT hbL))
      refine hK.out _ _ (fun _ => ?_) ?_
      · exact S7.out
      clear hK K
      simp only [Act.put, setIfInBounds_toArray, set_cons_zero, set_cons_succ]
      obtain ⟨A7, c7, hv7, _⟩ := o7.at_ len_e2
      subst hv7
      simp only [List.length_append, List.length_singleton] at o7
      have F7 := hide (HFb.out _ g7)
      have O7 := hide o7
      have G7 := hide g7
      have x7 : w7.cell? ⟨gf, 5, none⟩ = some (.slice vA (prK l k).length vc) := F7.out.cell 5
      have z7 := F7.out.frozen 5
      clear o7 g7 x5 z5 a0 a1 hS0
      refine AnyZ.step (i := 14) rfl (by kernel_rfl) (fun K hK => ?_)
      go_simp
      refine hK.out _ _ (fun h => ?_) ?_
      · exact absurd (h.symm.trans (show _ = true by kernel_rfl)) (by simp)
      clear hK K
      refine AnyZ.step (i := 15) rfl (by kernel_rfl) (fun K hK => ?_)
      go_simp
      refine hK.out _ _ (fun h => ?_) ?_
      · exact absurd (h.symm.trans (show _ = true by kernel_rfl)) (by simp)
      clear hK K
      refine AnyZ.done (by kernel_rfl) ?_ _
      have hlo := O7.out.lt
      have F8 : Hid (Blk (w7.setCell ⟨gf, 5, none⟩ (.slice A7 ((prK l k).length + 1) c7)) gf 82 #[.int .i64 (rtT b).start, .slice S sn sc, .slice H_ h_n h_c, .slice Z zn zc, .slice kA kn kc, .slice A7 ((prK l k).length + 1) c7, .slice none 0 0]) := hide (F7.out.set_ 5 _)
      have O8 := hide (O7.out.tw (Tw.set_ w7 gf 5 (.slice A7 ((prK l k).length + 1) c7) none) (fun e => by have := (hlo _ e).1; omega) (fun g _ e => by cases e))
      have T8 : Hid (Tw wn (w7.setCell ⟨gf, 5, none⟩ (.slice A7 ((prK l k).length + 1) c7)) gf none) := hide (((HT.out.trans (Tw.of_ext (Ext.trans (Ext.alloc _ _) (Ext.drew _)) _ _)).row G7.out (fun g e => .inl (HLT g e).1)).trans (Tw.set_ _ _ _ _ _))
      clear F7 G7 O7 x7 z7
      go_wp2_with fail
      exact ⟨⟨k + 1, i + 2, _, by have := HK.out.1; omega, HK.out.2, by go_num, hide (by rw [HSU.out]; exact O8.out), F8, T8⟩, by simp [intOf]; omega⟩
    · have hk2 : k = N / 2 := by omega
      have i1 : ¬ (i : Int) + 1 < (N : Int) := by omega
      have HE : Hid (prK l k = prL (r6F b).1) := hide (by rw [← HLL.out]; unfold prL; rw [HNL.out, hk2])
      have HKK := hide hk2
      clear hk2 hlt
      obtain ⟨wx, hwx⟩ : ∃ wx, wx = wr := ⟨_, rfl⟩
      subst hwx
      have IX := hide (IN.out.tw HT.out hgw)
      have L5_x : Hid (LA wx (gf + 1) 2 e2 vA (prK l k).length vc (prL (r6F b).1)) := hide ⟨by rw [← HE.out]; exact HAT.out, fun a ha => by subst ha; have := (HLT a.block rfl).1; omega⟩
      have L1_x := hide (L1_n.out.tw HT.out (by omega))
      have L2_x := hide (L2_n.out.tw HT.out (by omega))
      have L3_x := hide (L3_n.out.tw HT.out (by omega))
      have L4_x := hide (L4_n.out.tw HT.out (by omega))
      go_wp2_with fail
      with_reducible refine (HL1.out _ _ IX.out HP.out.2.2.2.2.2.2.1).mono ?_
      rintro e wy ⟨P, pn, pc, rfl, ay, by_, ty, ly⟩
      have IY : Hid (RtI w wy A n c (r7F b).2) := hide (IX.out.call by_ ty)
      have FY := hide (ty.blk HF.out (by omega) (by simp))
      have L6_y : Hid (LA wy (gf + 1) 1 e64 P pn pc (r7F b).1) := hide ⟨ay, fun a ha => by have := ly a ha; have := HF.out.lt; omega⟩
      have L1_y := hide (L1_x.out.tw ty (by omega))
      have L2_y := hide (L2_x.out.tw ty (by omega))
      have L3_y := hide (L3_x.out.tw ty (by omega))
      have L4_y := hide (L4_x.out.tw ty (by omega))
      have L5_y := hide (L5_x.out.tw ty (by omega))
      have gc : wy.cell? ⟨gf, 6, none⟩ = some (.slice none 0 0) := FY.out.cell 6
      have gz := FY.out.frozen 6
      clear ay by_ ty ly IX L1_x L2_x L3_x L4_x L5_x L1_n L2_n L3_n L4_n
      go_upto_region 16 with (fail)
      refine gen_wpC fun wz hz => ?_
      have SZ : Hid (Tw wy wz gf none) := hide (by rw [hz]; exact Tw.set_ _ _ _ _ _)
      have IZ := hide (IY.out.tw SZ.out hgw)
      have FZ : Hid (Blk wz gf 82 #[.int .i64 (rtT b).start, .slice S sn sc, .slice H_ h_n h_c, .slice Z zn zc, .slice kA kn kc, .slice vA (prK l k).length vc, .slice P pn pc]) := hide (by rw [hz]; exact FY.out.set_ 6 _)
      have L1_z := hide (L1_y.out.tw SZ.out (by omega))
      have L2_z := hide (L2_y.out.tw SZ.out (by omega))
      have L3_z := hide (L3_y.out.tw SZ.out (by omega))
      have L4_z := hide (L4_y.out.tw SZ.out (by omega))
      have L5_z := hide (L5_y.out.tw SZ.out (by omega))
      have L6_z := hide (L6_y.out.tw SZ.out (by omega))
      clear hz SZ IY FY gc gz L1_y L2_y L3_y L4_y L5_y L6_y
      have e9 : rdE b (r7F b).2 = rtE b := rfl
      go_wp2_with fail
      with_reducible refine (HEN.out _ _ IZ.out).mono ?_
      rintro e wu ⟨rfl, bu, tu⟩
      rw [e9] at bu ⊢
      have IU : Hid (RtI w wu A n c (rtE b)) := hide (IZ.out.call bu tu)
      have FU := hide (tu.blk FZ.out (by omega) (by simp))
      have L1_u := hide (L1_z.out.tw tu (by omega))
      have L2_u := hide (L2_z.out.tw tu (by omega))
      have L3_u := hide (L3_z.out.tw tu (by omega))
      have L4_u := hide (L4_z.out.tw tu (by omega))
      have L5_u := hide (L5_z.out.tw tu (by omega))
      have L6_u := hide (L6_z.out.tw tu (by omega))
      clear bu tu e9 IZ FZ L1_z L2_z L3_z L4_z L5_z L6_z
      have HF0 : Hid (rtF b = (if (rtE b).bad = true then 10 else 0) ∧ rtA b = (if (rtE b).bad = true then ((rtE b).pos : Int) else 0)) := hide (by
        have h9 := HL.out
        have h8 := HN1.out
        exact ⟨by unfold rtF; rw [if_neg (by omega)], by unfold rtA; rw [if_neg (by omega)]⟩)
      obtain ⟨ed, hed⟩ : ∃ ed, ed = rtE b := ⟨_, rfl⟩
      rw [← hed] at IU HF0 ⊢
      clear hed
      obtain ⟨ps, bd⟩ := ed
      have s1 : wu.cell? ⟨w.heap.size + 1, 1, none⟩ = some (.int .i64 (ps : Int)) := IU.out.src.cell 1
      have z0 := IU.out.res.frozen 0
      have y0 : wu.cell? ⟨w.heap.size, 0, none⟩ = some (.int .i64 0) := IU.out.res.cell 0
      have z1 := IU.out.res.frozen 1
      have y1 : wu.cell? ⟨w.heap.size, 1, none⟩ = some (.slice none 0 0) := IU.out.res.cell 1
      have z2 := IU.out.res.frozen 2
      have y2 : wu.cell? ⟨w.heap.size, 2, none⟩ = some (.slice none 0 0) := IU.out.res.cell 2
      have z3 := IU.out.res.frozen 3
      have y3 : wu.cell? ⟨w.heap.size, 3, none⟩ = some (.slice none 0 0) := IU.out.res.cell 3
      have z4 := IU.out.res.frozen 4
      have y4 : wu.cell? ⟨w.heap.size, 4, none⟩ = some (.slice none 0 0) := IU.out.res.cell 4
      have z5 := IU.out.res.frozen 5
      have y5 : wu.cell? ⟨w.heap.size, 5, none⟩ = some (.slice none 0 0) := IU.out.res.cell 5
      have z6 := IU.out.res.frozen 6
      have y6 : wu.cell? ⟨w.heap.size, 6, none⟩ = some (.slice none 0 0) := IU.out.res.cell 6
      cases bd with
      | true =>
        have HV : Hid (rtV b = noTab ∧ rtA b = (ps : Int) ∧ rtF b = 10) := hide (by
          have h1 : rtF b = 10 := HF0.out.1
          exact ⟨by unfold rtV; rw [h1, if_neg (by omega)], HF0.out.2, h1⟩)
        go_upto_region 17 with (fail)
        rename_i qK0 qa0
        have QA0 := hide qa0
        clear qa0
        go_region
        refine QA0.out _ _ (wp_ret ?_)
        change bodyPost Try.prog Try.f78 (RtGives w (rtV b) (rtA b) (rtF b)) Exit.ret _ _
        refine gen_bod fun w8 h8 => ?_
        have T8 : Hid (Tw wu w8 w.heap.size none) := hide (by rw [h8]; have q7 := Tw.set7 wu w.heap.size (.int .i64 0) (.slice none 0 0) (.slice none 0 0) (.slice none 0 0) (.slice none 0 0) (.slice none 0 0) (.slice none 0 0); exact q7.drew)
        have R8 : Hid (Blk w8 w.heap.size 82 #[.int .i64 0, .slice none 0 0, .slice none 0 0, .slice none 0 0, .slice none 0 0, .slice none 0 0, .slice none 0 0]) := hide (by rw [h8]; have q7 := (((((((IU.out.res.set_ 0 (.int .i64 0)).set_ 1 (.slice none 0 0)).set_ 2 (.slice none 0 0)).set_ 3 (.slice none 0 0)).set_ 4 (.slice none 0 0)).set_ 5 (.slice none 0 0)).set_ 6 (.slice none 0 0)); exact q7.drew)
        have k0 : w8.cell? ⟨w.heap.size, 0, none⟩ = some (.int .i64 0) := R8.out.cell 0
        have k1 : w8.cell? ⟨w.heap.size, 1, none⟩ = some (.slice none 0 0) := R8.out.cell 1
        have k2 : w8.cell? ⟨w.heap.size, 2, none⟩ = some (.slice none 0 0) := R8.out.cell 2
        have k3 : w8.cell? ⟨w.heap.size, 3, none⟩ = some (.slice none 0 0) := R8.out.cell 3
        have k4 : w8.cell? ⟨w.heap.size, 4, none⟩ = some (.slice none 0 0) := R8.out.cell 4
        have k5 : w8.cell? ⟨w.heap.size, 5, none⟩ = some (.slice none 0 0) := R8.out.cell 5
        have k6 : w8.cell? ⟨w.heap.size, 6, none⟩ = some (.slice none 0 0) := R8.out.cell 6
        refine bodyPost_ret (v := .tuple #[.agg #[.int .i64 0, .slice none 0 0, .slice none 0 0, .slice none 0 0, .slice none 0 0, .slice none 0 0, .slice none 0 0], .int .i64 (ps : Int), .int .i64 10]) (by simp [results, Try.results78, go_sem, k0, k1, k2, k3, k4, k5, k6]) rfl ?_
        rw [HV.out.1, HV.out.2.1, HV.out.2.2]
        exact ⟨_, rfl, TbB.none_ _ _, tw_ext' IU.out.ext T8.out (Nat.le_refl _)⟩
      | false =>
        have HV : Hid (rtV b = rtT b ∧ rtA b = 0 ∧ rtF b = 0) := hide (by
          have h1 : rtF b = 0 := HF0.out.1
          exact ⟨by unfold rtV; rw [h1, if_pos rfl], HF0.out.2, h1⟩)
        clear s1
        have g0 : wu.cell? ⟨gf, 0, none⟩ = some (.int .i64 (rtT b).start) := FU.out.cell 0
        have g1 : wu.cell? ⟨gf, 1, none⟩ = some (.slice S sn sc) := FU.out.cell 1
        have g2 : wu.cell? ⟨gf, 2, none⟩ = some (.slice H_ h_n h_c) := FU.out.cell 2
        have g3 : wu.cell? ⟨gf, 3, none⟩ = some (.slice Z zn zc) := FU.out.cell 3
        have g4 : wu.cell? ⟨gf, 4, none⟩ = some (.slice kA kn kc) := FU.out.cell 4
        have g5 : wu.cell? ⟨gf, 5, none⟩ = some (.slice vA (prK l k).length vc) := FU.out.cell 5
        have g6 : wu.cell? ⟨gf, 6, none⟩ = some (.slice P pn pc) := FU.out.cell 6
        go_upto_region 18 with (fail)
        rename_i qK0 qa0
        have QA0 := hide qa0
        clear qa0
        go_wp2_with fail
        refine QA0.out _ _ (wp_ret ?_)
        change bodyPost Try.prog Try.f78 (RtGives w (rtV b) (rtA b) (rtF b)) Exit.ret _ _
        refine gen_bod fun w8 h8 => ?_
        have T8 : Hid (Tw wu w8 w.heap.size none) := hide (by rw [h8]; have q7 := Tw.set7 wu w.heap.size (.int .i64 (rtT b).start) (.slice S sn sc) (.slice H_ h_n h_c) (.slice Z zn zc) (.slice kA kn kc) (.slice vA (prK l k).length vc) (.slice P pn pc); exact q7)
        have R8 : Hid (Blk w8 w.heap.size 82 #[.int .i64 (rtT b).start, .slice S sn sc, .slice H_ h_n h_c, .slice Z zn zc, .slice kA kn kc, .slice vA (prK l k).length vc, .slice P pn pc]) := hide (by rw [h8]; have q7 := (((((((IU.out.res.set_ 0 (.int .i64 (rtT b).start)).set_ 1 (.slice S sn sc)).set_ 2 (.slice H_ h_n h_c)).set_ 3 (.slice Z zn zc)).set_ 4 (.slice kA kn kc)).set_ 5 (.slice vA (prK l k).length vc)).set_ 6 (.slice P pn pc)); exact q7)
        have k0 : w8.cell? ⟨w.heap.size, 0, none⟩ = some (.int .i64 (rtT b).start) := R8.out.cell 0
        have k1 : w8.cell? ⟨w.heap.size, 1, none⟩ = some (.slice S sn sc) := R8.out.cell 1
        have k2 : w8.cell? ⟨w.heap.size, 2, none⟩ = some (.slice H_ h_n h_c) := R8.out.cell 2
        have k3 : w8.cell? ⟨w.heap.size, 3, none⟩ = some (.slice Z zn zc) := R8.out.cell 3
        have k4 : w8.cell? ⟨w.heap.size, 4, none⟩ = some (.slice kA kn kc) := R8.out.cell 4
        have k5 : w8.cell? ⟨w.heap.size, 5, none⟩ = some (.slice vA (prK l k).length vc) := R8.out.cell 5
        have k6 : w8.cell? ⟨w.heap.size, 6, none⟩ = some (.slice P pn pc) := R8.out.cell 6
        refine bodyPost_ret (v := .tuple #[.agg #[.int .i64 (rtT b).start, .slice S sn sc, .slice H_ h_n h_c, .slice Z zn zc, .slice kA kn kc, .slice vA (prK l k).length vc, .slice P pn pc], .int .i64 0, .int .i64 0]) (by simp [results, Try.results78, go_sem, k0, k1, k2, k3, k4, k5, k6]) rfl ?_
        rw [HV.out.1, HV.out.2.1, HV.out.2.2]
        refine ⟨_, rfl, ⟨_, _, _, _, _, _, _, _, _, _, _, _, _, _, _, _, _, _, rfl, ⟨(L1_u.out.tw T8.out (by omega)).at_, (L2_u.out.tw T8.out (by omega)).at_, (L3_u.out.tw T8.out (by omega)).at_, (L4_u.out.tw T8.out (by omega)).at_, ?_, (L5_u.out.tw T8.out (by omega)).at_, (L6_u.out.tw T8.out (by omega)).at_⟩, fun a ha => by
          rcases ha with h | h | h | h | h | h
          · have := L1_u.out.lo a h; omega
          · have := L2_u.out.lo a h; omega
          · have := L3_u.out.lo a h; omega
          · have := L4_u.out.lo a h; omega
          · have := L5_u.out.lo a h; omega
          · have := L6_u.out.lo a h; omega⟩, tw_ext' IU.out.ext T8.out (Nat.le_refl _)⟩
        rw [HKN.out]; show _ ↔ (!hasK b) = true; simp
end Go.Proofs.Ytkbmgakehlmcnaa
