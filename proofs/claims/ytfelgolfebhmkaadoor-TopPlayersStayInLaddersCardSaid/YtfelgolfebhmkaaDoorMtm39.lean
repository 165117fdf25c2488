/- Walks: byLook and choose give a rendition. Conditions as stated. -/
import Derived.Test.YtfelgolfebhmkaaDoorMtm33
import Derived.Test.YtfelgolfebhmkaaDoorMtm38
namespace Go.Proofs.YtfelgolfebhmkaaDoor
open Go.RowKit
theorem gen_callC {P : Program} {f : Nat} {args : Array Value} {W : World} {Q : Ending → World → Prop} (h : ∀ W', W' = W → Calls P f args W' Q) : Calls P f args W Q := h W rfl
section
variable {lA : Option Addr} {ln lc : Nat} {sA : Option Addr} {sn sc : Nat} {qA : Option Addr} {qn qc : Nat} {L : List Int} {S : List (List Int)} {Q : List Int} {d0 s0 r0 f0 i0 k0 l0 t0 lo0 hi0 a0 x0 y0 z0 : Int} {nx tm bu bf : Int} {ldA : Option Addr} {ldn ldc : Nat} {w : World} {G : Nat} {en bi lg : Int} {LD : List (Int × Int)}
theorem from_any {eN : Nat} (h : Shw w lA ln lc sA sn sc qA qn qc L S Q) (ok : FilmOk L S Q) (hG : w.heap.size ≤ G) (hen : en = (eN : Int)) (heN : eN ≤ ln) : ∀ (d n b f : Nat) (x v : Int) (W : World) (be : Int) (fi : Nat) (fo : Bool), n + d = eN → b < sn → f < sn → fi < sn → Ext w W → Blk W G 102 #[.slice lA ln lc, .slice sA sn sc, .slice qA qn qc, .int .i64 d0, .int .i64 s0, .int .i64 r0, .int .i64 f0, .int .i64 i0, .int .i64 k0, .int .i64 l0, .int .i64 t0, .int .i64 lo0, .int .i64 hi0, .int .i64 a0, .int .i64 x0, .int .i64 y0, .int .i64 z0, .int .i64 nx, .int .i64 en, .int .i64 bi, .int .i64 lg, .int .i64 be, .int .i64 (fi : Int), .bool fo] →
    Calls Tryd.prog 49 #[.pointer (some ⟨G, 0, none⟩), .int .i64 (n : Int), .int .i64 (b : Int), .int .i64 x, .int .i64 v, .int .i64 (f : Int)] W (FrmGives w G lA ln lc sA sn sc qA qn qc d0 s0 r0 f0 i0 k0 l0 t0 lo0 hi0 a0 x0 y0 z0 nx en bi lg)
  | 0, n, b, f, x, v, W, be, fi, fo, hn, hb, hf, hfi, hX, hB => from_zero hG hen (by omega) hf hfi hX hB
  | d + 1, n, b, f, x, v, W, be, fi, fo, hn, hb, hf, hfi, hX, hB => by
    refine from_step h ok (by omega) (by omega) hb hf hfi hX hB (fun b f x v W be fi fo hb hf hfi hX hB => ?_)
    have := from_any h ok hG hen heN d (n + 1) b f x v W be fi fo (by omega) hb hf hfi hX hB
    rwa [show ((n + 1 : Nat) : Int) = (n : Int) + 1 from rfl] at this
set_option maxRecDepth 1000000 in
set_option maxHeartbeats 8000000 in
theorem byLook_some {la aN n b : Nat} (h : Shw w lA ln lc sA sn sc qA qn qc L S Q) (ok : FilmOk L S Q) (hl0 : l0 = (la : Int)) (hla : la ≤ 1000) (ha0 : a0 = (aN : Int)) (haN : aN ≤ 6) (hn : n < ln) (hb : b < sn) (hLD : At w 2 e2 ldA ldn ldc LD) (hldn : ldn ≤ 200) (hok : ∀ j, j < LD.length → okH (LD.getD j (0, 0)) = true) :
    Calls Tryd.prog 34 #[shV lA ln lc sA sn sc qA qn qc, plV d0 s0 r0 f0 i0 k0 l0 t0 lo0 hi0 a0 x0 y0 z0, .agg #[.int .i64 (n : Int), .int .i64 tm, .int .i64 bu, .slice ldA ldn ldc, .int .i64 (b : Int)]] w fun e w' => (∃ r : Nat, r < sn ∧ e = .returned (.int .i64 (r : Int))) ∧ Ext w w' := by
  have hlen := h.longs.len
  have hl2 := ok.l1
  have HX : Hid (Ext w (((w.alloc (.cells #[.slice lA ln lc, .slice sA sn sc, .slice qA qn qc] 25)).alloc (.cells #[.int .i64 d0, .int .i64 s0, .int .i64 r0, .int .i64 f0, .int .i64 i0, .int .i64 k0, .int .i64 l0, .int .i64 t0, .int .i64 lo0, .int .i64 hi0, .int .i64 a0, .int .i64 x0, .int .i64 y0, .int .i64 z0] 29)).alloc (.cells #[.int .i64 (n : Int), .int .i64 tm, .int .i64 bu, .slice ldA ldn ldc, .int .i64 (b : Int)] 57))) := hide (ext_alloc (ext_alloc (Ext.alloc _ _) _) _)
  have hb0 := ((Blk.new w 25 #[.slice lA ln lc, .slice sA sn sc, .slice qA qn qc]).alloc (.cells #[.int .i64 d0, .int .i64 s0, .int .i64 r0, .int .i64 f0, .int .i64 i0, .int .i64 k0, .int .i64 l0, .int .i64 t0, .int .i64 lo0, .int .i64 hi0, .int .i64 a0, .int .i64 x0, .int .i64 y0, .int .i64 z0] 29)).alloc (.cells #[.int .i64 (n : Int), .int .i64 tm, .int .i64 bu, .slice ldA ldn ldc, .int .i64 (b : Int)] 57)
  have hb1 := (Blk.new (w.alloc (.cells #[.slice lA ln lc, .slice sA sn sc, .slice qA qn qc] 25)) 29 #[.int .i64 d0, .int .i64 s0, .int .i64 r0, .int .i64 f0, .int .i64 i0, .int .i64 k0, .int .i64 l0, .int .i64 t0, .int .i64 lo0, .int .i64 hi0, .int .i64 a0, .int .i64 x0, .int .i64 y0, .int .i64 z0]).alloc (.cells #[.int .i64 (n : Int), .int .i64 tm, .int .i64 bu, .slice ldA ldn ldc, .int .i64 (b : Int)] 57)
  have hb2 := Blk.new ((w.alloc (.cells #[.slice lA ln lc, .slice sA sn sc, .slice qA qn qc] 25)).alloc (.cells #[.int .i64 d0, .int .i64 s0, .int .i64 r0, .int .i64 f0, .int .i64 i0, .int .i64 k0, .int .i64 l0, .int .i64 t0, .int .i64 lo0, .int .i64 hi0, .int .i64 a0, .int .i64 x0, .int .i64 y0, .int .i64 z0] 29)) 57 #[.int .i64 (n : Int), .int .i64 tm, .int .i64 bu, .slice ldA ldn ldc, .int .i64 (b : Int)]
  simp only [World.size_alloc] at hb1 hb2
  have B0 := hide hb0
  have B1 := hide hb1
  have B2 := hide hb2
  clear hb0 hb1 hb2
  have HES := hide (fun (W : World) (hW : Ext w W) => estimate_any (last := la) (hLD.ext hW) hldn hla hok)
  rw [← hl0] at HES
  generalize sumB (LD.drop (ldn - la)) = bits at *
  generalize sumG (LD.drop (ldn - la)) = long at *
  obtain ⟨eN, hEN⟩ : ∃ eN : Nat, min (ln : Int) ((n : Int) + a0) = (eN : Int) := ⟨min ln (n + aN), by omega⟩
  have hen1 : eN ≤ ln := by omega
  have hen2 : n ≤ eN := by omega
  have HFR := hide (fun (W : World) hX hB => from_any (d0 := d0) (s0 := s0) (r0 := r0) (f0 := f0) (i0 := i0) (k0 := k0) (l0 := l0) (t0 := t0) (lo0 := lo0) (hi0 := hi0) (a0 := a0) (x0 := x0) (y0 := y0) (z0 := z0) (nx := (n : Int)) (en := min (ln : Int) ((n : Int) + a0)) (bi := bits) (lg := long) h ok (G := w.heap.size + 1 + 1 + 1) (by omega) hEN hen1 (eN - n) n b 0 bu 0 W 0 0 false (by omega) hb (by omega) (by omega) hX hB)
  have wna : IntKind.i64.wrap ((n : Int) + a0) = (n : Int) + a0 := by rw [IntKind.wrap_i64]; omega
  clear h ok hLD hok hl0 ha0 hEN hlen hl2
  have fin : ∀ (r : Nat), r < sn → ∃ q : Nat, q < sn ∧ Ending.returned (.int .i64 (r : Int)) = .returned (.int .i64 (q : Int)) := fun r hr => ⟨r, hr, rfl⟩
  go_enter Tryd.func34, Tryd.ntmps34
  have rr0 := (B0.out.ext ((Ext.refl _))).cell 0
  have rr1 := (B0.out.ext ((Ext.refl _))).cell 1
  have rr2 := (B0.out.ext ((Ext.refl _))).cell 2
  have p0 := (B1.out.ext ((Ext.refl _))).cell 0
  have p1 := (B1.out.ext ((Ext.refl _))).cell 1
  have p2 := (B1.out.ext ((Ext.refl _))).cell 2
  have p3 := (B1.out.ext ((Ext.refl _))).cell 3
  have p4 := (B1.out.ext ((Ext.refl _))).cell 4
  have p5 := (B1.out.ext ((Ext.refl _))).cell 5
  have p6 := (B1.out.ext ((Ext.refl _))).cell 6
  have p7 := (B1.out.ext ((Ext.refl _))).cell 7
  have p8 := (B1.out.ext ((Ext.refl _))).cell 8
  have p9 := (B1.out.ext ((Ext.refl _))).cell 9
  have p10 := (B1.out.ext ((Ext.refl _))).cell 10
  have p11 := (B1.out.ext ((Ext.refl _))).cell 11
  have p12 := (B1.out.ext ((Ext.refl _))).cell 12
  have p13 := (B1.out.ext ((Ext.refl _))).cell 13
  have s0_ := (B2.out.ext ((Ext.refl _))).cell 0
  have s1_ := (B2.out.ext ((Ext.refl _))).cell 1
  have s2_ := (B2.out.ext ((Ext.refl _))).cell 2
  have s3_ := (B2.out.ext ((Ext.refl _))).cell 3
  have s4_ := (B2.out.ext ((Ext.refl _))).cell 4
  go_wp2_with fail
  refine gen_callC fun w4 h4 => ?_
  have x4 : Ext (((w.alloc (.cells #[.slice lA ln lc, .slice sA sn sc, .slice qA qn qc] 25)).alloc (.cells #[.int .i64 d0, .int .i64 s0, .int .i64 r0, .int .i64 f0, .int .i64 i0, .int .i64 k0, .int .i64 l0, .int .i64 t0, .int .i64 lo0, .int .i64 hi0, .int .i64 a0, .int .i64 x0, .int .i64 y0, .int .i64 z0] 29)).alloc (.cells #[.int .i64 (n : Int), .int .i64 tm, .int .i64 bu, .slice ldA ldn ldc, .int .i64 (b : Int)] 57)) w4 := by rw [h4]; exact Ext.alloc _ _
  have hb4 : Blk w4 (w.heap.size + 1 + 1 + 1) 102 #[.slice lA ln lc, .slice sA sn sc, .slice qA qn qc, .int .i64 d0, .int .i64 s0, .int .i64 r0, .int .i64 f0, .int .i64 i0, .int .i64 k0, .int .i64 l0, .int .i64 t0, .int .i64 lo0, .int .i64 hi0, .int .i64 a0, .int .i64 x0, .int .i64 y0, .int .i64 z0, .int .i64 (n : Int), .int .i64 (min (ln : Int) ((n : Int) + a0)), .int .i64 0, .int .i64 0, .int .i64 0, .int .i64 0, .bool false] := by
    rw [h4]
    have := Blk.new (((w.alloc (.cells #[.slice lA ln lc, .slice sA sn sc, .slice qA qn qc] 25)).alloc (.cells #[.int .i64 d0, .int .i64 s0, .int .i64 r0, .int .i64 f0, .int .i64 i0, .int .i64 k0, .int .i64 l0, .int .i64 t0, .int .i64 lo0, .int .i64 hi0, .int .i64 a0, .int .i64 x0, .int .i64 y0, .int .i64 z0] 29)).alloc (.cells #[.int .i64 (n : Int), .int .i64 tm, .int .i64 bu, .slice ldA ldn ldc, .int .i64 (b : Int)] 57)) 102 #[.slice lA ln lc, .slice sA sn sc, .slice qA qn qc, .int .i64 d0, .int .i64 s0, .int .i64 r0, .int .i64 f0, .int .i64 i0, .int .i64 k0, .int .i64 l0, .int .i64 t0, .int .i64 lo0, .int .i64 hi0, .int .i64 a0, .int .i64 x0, .int .i64 y0, .int .i64 z0, .int .i64 (n : Int), .int .i64 (min (ln : Int) ((n : Int) + a0)), .int .i64 0, .int .i64 0, .int .i64 0, .int .i64 0, .bool false]
    simp only [World.size_alloc] at this
    exact this
  have B4 := hide hb4
  have X4 := hide x4
  clear h4 hb4 x4
  refine (HES.out _ (Ext.trans HX.out X4.out)).mono ?_
  rintro e w5 ⟨rfl, e5⟩
  have X5 := hide (Ext.trans X4.out e5)
  have B5 := hide (B4.out.ext e5)
  have f19 := B5.out.frozen 19
  have f20 := B5.out.frozen 20
  clear e5 B4 X4
  clear rr0 rr1 rr2 p0 p1 p2 p3 p4 p5 p6 p7 p8 p9 p10 p11 p12 p13 s0_ s1_ s2_ s3_ s4_
  have c19 : w5.cell? ⟨w.heap.size + 1 + 1 + 1, 19, none⟩ = some (.int .i64 0) := B5.out.cell 19
  have c20 : w5.cell? ⟨w.heap.size + 1 + 1 + 1, 20, none⟩ = some (.int .i64 0) := B5.out.cell 20
  go_upto_region 3 with (fail)
  refine gen_wpC fun w6 h6 => ?_
  have T6 : Tw w5 w6 (w.heap.size + 1 + 1 + 1) none := by rw [h6]; (repeat' (first | (with_reducible exact Tw.refl _ _ _) | (with_reducible refine Tw.drew ?_) | (with_reducible refine Tw.drewN ?_ _) | (with_reducible refine Tw.trans ?_ (Tw.set_ _ _ _ _ _))))
  have B6 : Hid (Blk w6 (w.heap.size + 1 + 1 + 1) 102 #[.slice lA ln lc, .slice sA sn sc, .slice qA qn qc, .int .i64 d0, .int .i64 s0, .int .i64 r0, .int .i64 f0, .int .i64 i0, .int .i64 k0, .int .i64 l0, .int .i64 t0, .int .i64 lo0, .int .i64 hi0, .int .i64 a0, .int .i64 x0, .int .i64 y0, .int .i64 z0, .int .i64 (n : Int), .int .i64 (min (ln : Int) ((n : Int) + a0)), .int .i64 bits, .int .i64 long, .int .i64 0, .int .i64 0, .bool false]) := hide (by rw [h6]; first | exact (B5.out.set_ 19 _).set_ 20 _ | exact (B5.out.drew.set_ 19 _).set_ 20 _)
  have X6 := hide (Below.trans (Ext.trans HX.out X5.out) (T6.below (Ext.trans HX.out X5.out).size (by omega) (fun b hb => by cases hb)))
  have N2 := T6.blk (B2.out.ext X5.out) (by omega) (by simp)
  have s0_ : w6.cell? ⟨w.heap.size + 1 + 1, 0, none⟩ = some (.int .i64 (n : Int)) := N2.cell 0
  have s2_ : w6.cell? ⟨w.heap.size + 1 + 1, 2, none⟩ = some (.int .i64 bu) := N2.cell 2
  have s4_ : w6.cell? ⟨w.heap.size + 1 + 1, 4, none⟩ = some (.int .i64 (b : Int)) := N2.cell 4
  clear h6 T6 f19 f20 c19 c20 B5 X5 N2
  go_wp2_with fail
  refine (HFR.out _ X6.out B6.out).mono ?_
  rintro e w7 ⟨rfl, x7, be, fi, fo, hfi, b7⟩
  have c22 : w7.cell? ⟨w.heap.size + 1 + 1 + 1, 22, none⟩ = some (.int .i64 (fi : Int)) := b7.cell 22
  clear s0_ s2_ s4_
  go_wp2
  go_ret
  exact ⟨fin fi hfi, x7⟩
theorem plr_kind (h : plrF d0 s0 r0 f0 i0 k0 l0 t0 lo0 hi0 a0 x0 y0 z0 = 0) : (1 ≤ k0 ∧ k0 ≤ 4) ∧ (0 ≤ i0) ∧ ((k0 = 2 ∨ k0 = 4) → (1 ≤ l0 ∧ l0 ≤ 100) ∧ 1 ≤ t0 ∧ t0 ≤ 10000) ∧ (k0 = 3 → 0 ≤ lo0 ∧ lo0 < hi0 ∧ hi0 ≤ 1000000000) ∧ (k0 = 4 → 1 ≤ a0 ∧ a0 ≤ 6) := by
  unfold plrF at h
  split at h
  · omega
  rename_i g1
  split at h
  · omega
  rename_i g2
  split at h
  · omega
  split at h
  · omega
  rename_i g4
  split at h
  · omega
  rename_i g5
  split at h
  · omega
  rename_i g6
  omega
set_option maxRecDepth 1000000 in
set_option maxHeartbeats 8000000 in
theorem choose_some {n b : Nat} (h : Shw w lA ln lc sA sn sc qA qn qc L S Q) (ok : FilmOk L S Q) (hP : plrF d0 s0 r0 f0 i0 k0 l0 t0 lo0 hi0 a0 x0 y0 z0 = 0) (hi : i0 < (sn : Int)) (hn : n < ln) (hb : b < sn) (hbu : 0 ≤ bu ∧ bu ≤ 2000000000000) (hLD : At w 2 e2 ldA ldn ldc LD) (hldn : ldn ≤ 200) (hok : ∀ j, j < LD.length → okH (LD.getD j (0, 0)) = true) :
    Calls Tryd.prog 14 #[shV lA ln lc sA sn sc qA qn qc, plV d0 s0 r0 f0 i0 k0 l0 t0 lo0 hi0 a0 x0 y0 z0, .agg #[.int .i64 (n : Int), .int .i64 tm, .int .i64 bu, .slice ldA ldn ldc, .int .i64 (b : Int)]] w fun e w' => (∃ r : Nat, e = .returned (.int .i64 (r : Int)) ∧ r < sn ∧ (k0 = 2 → (r : Int) = rateC (ratesL L S) (sumB (LD.drop (ldn - l0.toNat))) (sumG (LD.drop (ldn - l0.toNat))) t0)) ∧ Ext w w' := by
  obtain ⟨⟨k1, k2⟩, hi1, hr, hbf, hlk⟩ := plr_kind hP
  have hsl := h.sizes.len
  have hs0 := ok.s0
  have HX : Hid (Ext w (((w.alloc (.cells #[.slice lA ln lc, .slice sA sn sc, .slice qA qn qc] 25)).alloc (.cells #[.int .i64 d0, .int .i64 s0, .int .i64 r0, .int .i64 f0, .int .i64 i0, .int .i64 k0, .int .i64 l0, .int .i64 t0, .int .i64 lo0, .int .i64 hi0, .int .i64 a0, .int .i64 x0, .int .i64 y0, .int .i64 z0] 29)).alloc (.cells #[.int .i64 (n : Int), .int .i64 tm, .int .i64 bu, .slice ldA ldn ldc, .int .i64 (b : Int)] 57))) := hide (ext_alloc (ext_alloc (Ext.alloc _ _) _) _)
  have hb0 := ((Blk.new w 25 #[.slice lA ln lc, .slice sA sn sc, .slice qA qn qc]).alloc (.cells #[.int .i64 d0, .int .i64 s0, .int .i64 r0, .int .i64 f0, .int .i64 i0, .int .i64 k0, .int .i64 l0, .int .i64 t0, .int .i64 lo0, .int .i64 hi0, .int .i64 a0, .int .i64 x0, .int .i64 y0, .int .i64 z0] 29)).alloc (.cells #[.int .i64 (n : Int), .int .i64 tm, .int .i64 bu, .slice ldA ldn ldc, .int .i64 (b : Int)] 57)
  have hb1 := (Blk.new (w.alloc (.cells #[.slice lA ln lc, .slice sA sn sc, .slice qA qn qc] 25)) 29 #[.int .i64 d0, .int .i64 s0, .int .i64 r0, .int .i64 f0, .int .i64 i0, .int .i64 k0, .int .i64 l0, .int .i64 t0, .int .i64 lo0, .int .i64 hi0, .int .i64 a0, .int .i64 x0, .int .i64 y0, .int .i64 z0]).alloc (.cells #[.int .i64 (n : Int), .int .i64 tm, .int .i64 bu, .slice ldA ldn ldc, .int .i64 (b : Int)] 57)
  have hb2 := Blk.new ((w.alloc (.cells #[.slice lA ln lc, .slice sA sn sc, .slice qA qn qc] 25)).alloc (.cells #[.int .i64 d0, .int .i64 s0, .int .i64 r0, .int .i64 f0, .int .i64 i0, .int .i64 k0, .int .i64 l0, .int .i64 t0, .int .i64 lo0, .int .i64 hi0, .int .i64 a0, .int .i64 x0, .int .i64 y0, .int .i64 z0] 29)) 57 #[.int .i64 (n : Int), .int .i64 tm, .int .i64 bu, .slice ldA ldn ldc, .int .i64 (b : Int)]
  simp only [World.size_alloc] at hb1 hb2
  have B0 := hide hb0
  have B1 := hide hb1
  have B2 := hide hb2
  clear hb0 hb1 hb2
  by_cases c2 : k0 = 2
  · obtain ⟨⟨l1, l2⟩, t1, t2⟩ := hr (Or.inl c2)
    have q2' : (k0 == 2) = true := by simp [c2]
    have HR := hide (fun (W : World) (hW : Ext w W) => byRate_any (la := l0.toNat) (d0 := d0) (s0 := s0) (r0 := r0) (f0 := f0) (i0 := i0) (k0 := k0) (l0 := l0) (t0 := t0) (lo0 := lo0) (hi0 := hi0) (a0 := a0) (x0 := x0) (y0 := y0) (z0 := z0) (nx := (n : Int)) (tm := tm) (bu := bu) (bf := (b : Int)) (h.ext hW) ok (by omega) (by omega) ⟨by omega, t2⟩ (hLD.ext hW) hldn hok)
    have hbd := rateC_bd (R := ratesL L S) (bits := sumB (LD.drop (ldn - l0.toNat))) (long := sumG (LD.drop (ldn - l0.toNat))) (part := t0) (by rw [rates_len]; exact hs0)
    rw [rates_len] at hbd
    generalize rateC (ratesL L S) (sumB (LD.drop (ldn - l0.toNat))) (sumG (LD.drop (ldn - l0.toNat))) t0 = v at *
    obtain ⟨r, rfl⟩ : ∃ r : Nat, v = (r : Int) := ⟨v.toNat, by omega⟩
    have hrs : r < sn := by omega
    clear h ok hP hLD hok hr hbf hlk c2 hbd hi hn hb hbu l1 l2 t1 t2
    go_enter Tryd.func14, Tryd.ntmps14
    have rr0 := (B0.out.ext ((Ext.refl _))).cell 0
    have rr1 := (B0.out.ext ((Ext.refl _))).cell 1
    have rr2 := (B0.out.ext ((Ext.refl _))).cell 2
    have p0 := (B1.out.ext ((Ext.refl _))).cell 0
    have p1 := (B1.out.ext ((Ext.refl _))).cell 1
    have p2 := (B1.out.ext ((Ext.refl _))).cell 2
    have p3 := (B1.out.ext ((Ext.refl _))).cell 3
    have p4 := (B1.out.ext ((Ext.refl _))).cell 4
    have p5 := (B1.out.ext ((Ext.refl _))).cell 5
    have p6 := (B1.out.ext ((Ext.refl _))).cell 6
    have p7 := (B1.out.ext ((Ext.refl _))).cell 7
    have p8 := (B1.out.ext ((Ext.refl _))).cell 8
    have p9 := (B1.out.ext ((Ext.refl _))).cell 9
    have p10 := (B1.out.ext ((Ext.refl _))).cell 10
    have p11 := (B1.out.ext ((Ext.refl _))).cell 11
    have p12 := (B1.out.ext ((Ext.refl _))).cell 12
    have p13 := (B1.out.ext ((Ext.refl _))).cell 13
    have s0_ := (B2.out.ext ((Ext.refl _))).cell 0
    have s1_ := (B2.out.ext ((Ext.refl _))).cell 1
    have s2_ := (B2.out.ext ((Ext.refl _))).cell 2
    have s3_ := (B2.out.ext ((Ext.refl _))).cell 3
    have s4_ := (B2.out.ext ((Ext.refl _))).cell 4
    go_wp2_with fail
    refine (HR.out _ HX.out).mono ?_
    rintro e w1 ⟨rfl, e1⟩
    go_wp2
    go_ret
    exact ⟨⟨r, rfl, hrs, fun _ => rfl⟩, Ext.trans HX.out e1⟩
  have hq : ∀ (r : Nat) (v : Int), k0 = 2 → (r : Int) = v := fun _ _ e => absurd e c2
  have HQ := hide hq
  clear hq
  by_cases c3 : k0 = 3
  · have HR := hide (fun (W : World) (hW : Ext w W) => byBuffer_any (d0 := d0) (s0 := s0) (r0 := r0) (f0 := f0) (i0 := i0) (k0 := k0) (l0 := l0) (t0 := t0) (lo0 := lo0) (hi0 := hi0) (a0 := a0) (x0 := x0) (y0 := y0) (z0 := z0) (nx := (n : Int)) (tm := tm) (bu := bu) (bf := (b : Int)) (ldA := ldA) (ldn := ldn) (ldc := ldc) (h.ext hW) ok (hbf c3) hbu)
    have hbd : 0 ≤ bufC (ratesL L S) lo0 hi0 bu ∧ bufC (ratesL L S) lo0 hi0 bu < S.length := by
      have h2 := lastF_bd (bufB (ratesL L S) lo0 hi0 bu) (ratesL L S).length
      unfold bufC
      rw [rates_len] at *
      split
      · omega
      · split <;> omega
    have q2' : (k0 == 2) = false := by simp [c2]
    have q3' : (k0 == 3) = true := by simp [c3]
    generalize bufC (ratesL L S) lo0 hi0 bu = v at *
    obtain ⟨r, rfl⟩ : ∃ r : Nat, v = (r : Int) := ⟨v.toNat, by omega⟩
    have hrs : r < sn := by omega
    clear h ok hP hLD hok hr hbf hlk c2 c3 hbd hi hn hb hbu
    go_enter Tryd.func14, Tryd.ntmps14
    have rr0 := (B0.out.ext ((Ext.refl _))).cell 0
    have rr1 := (B0.out.ext ((Ext.refl _))).cell 1
    have rr2 := (B0.out.ext ((Ext.refl _))).cell 2
    have p0 := (B1.out.ext ((Ext.refl _))).cell 0
    have p1 := (B1.out.ext ((Ext.refl _))).cell 1
    have p2 := (B1.out.ext ((Ext.refl _))).cell 2
    have p3 := (B1.out.ext ((Ext.refl _))).cell 3
    have p4 := (B1.out.ext ((Ext.refl _))).cell 4
    have p5 := (B1.out.ext ((Ext.refl _))).cell 5
    have p6 := (B1.out.ext ((Ext.refl _))).cell 6
    have p7 := (B1.out.ext ((Ext.refl _))).cell 7
    have p8 := (B1.out.ext ((Ext.refl _))).cell 8
    have p9 := (B1.out.ext ((Ext.refl _))).cell 9
    have p10 := (B1.out.ext ((Ext.refl _))).cell 10
    have p11 := (B1.out.ext ((Ext.refl _))).cell 11
    have p12 := (B1.out.ext ((Ext.refl _))).cell 12
    have p13 := (B1.out.ext ((Ext.refl _))).cell 13
    have s0_ := (B2.out.ext ((Ext.refl _))).cell 0
    have s1_ := (B2.out.ext ((Ext.refl _))).cell 1
    have s2_ := (B2.out.ext ((Ext.refl _))).cell 2
    have s3_ := (B2.out.ext ((Ext.refl _))).cell 3
    have s4_ := (B2.out.ext ((Ext.refl _))).cell 4
    go_wp2_with fail
    refine (HR.out _ HX.out).mono ?_
    rintro e w1 ⟨rfl, e1⟩
    go_wp2
    go_ret
    exact ⟨⟨r, rfl, hrs, HQ.out r _⟩, Ext.trans HX.out e1⟩
  by_cases c4 : k0 = 4
  · obtain ⟨⟨l1, l2⟩, t1, t2⟩ := hr (Or.inr c4)
    obtain ⟨a1, a2⟩ := hlk c4
    have HR := hide (fun (W : World) (hW : Ext w W) => byLook_some (la := l0.toNat) (aN := a0.toNat) (d0 := d0) (s0 := s0) (r0 := r0) (f0 := f0) (i0 := i0) (k0 := k0) (l0 := l0) (t0 := t0) (lo0 := lo0) (hi0 := hi0) (a0 := a0) (x0 := x0) (y0 := y0) (z0 := z0) (tm := tm) (bu := bu) (h.ext hW) ok (by omega) (by omega) (by omega) (by omega) hn hb (hLD.ext hW) hldn hok)
    have q2' : (k0 == 2) = false := by simp [c2]
    have q3' : (k0 == 3) = false := by simp [c3]
    have q4' : (k0 == 4) = true := by simp [c4]
    clear h ok hP hLD hok hr hbf hlk c2 c3 c4 hi hn hb hbu l1 l2 t1 t2 a1 a2
    go_enter Tryd.func14, Tryd.ntmps14
    have rr0 := (B0.out.ext ((Ext.refl _))).cell 0
    have rr1 := (B0.out.ext ((Ext.refl _))).cell 1
    have rr2 := (B0.out.ext ((Ext.refl _))).cell 2
    have p0 := (B1.out.ext ((Ext.refl _))).cell 0
    have p1 := (B1.out.ext ((Ext.refl _))).cell 1
    have p2 := (B1.out.ext ((Ext.refl _))).cell 2
    have p3 := (B1.out.ext ((Ext.refl _))).cell 3
    have p4 := (B1.out.ext ((Ext.refl _))).cell 4
    have p5 := (B1.out.ext ((Ext.refl _))).cell 5
    have p6 := (B1.out.ext ((Ext.refl _))).cell 6
    have p7 := (B1.out.ext ((Ext.refl _))).cell 7
    have p8 := (B1.out.ext ((Ext.refl _))).cell 8
    have p9 := (B1.out.ext ((Ext.refl _))).cell 9
    have p10 := (B1.out.ext ((Ext.refl _))).cell 10
    have p11 := (B1.out.ext ((Ext.refl _))).cell 11
    have p12 := (B1.out.ext ((Ext.refl _))).cell 12
    have p13 := (B1.out.ext ((Ext.refl _))).cell 13
    have s0_ := (B2.out.ext ((Ext.refl _))).cell 0
    have s1_ := (B2.out.ext ((Ext.refl _))).cell 1
    have s2_ := (B2.out.ext ((Ext.refl _))).cell 2
    have s3_ := (B2.out.ext ((Ext.refl _))).cell 3
    have s4_ := (B2.out.ext ((Ext.refl _))).cell 4
    go_wp2_with fail
    refine (HR.out _ HX.out).mono ?_
    rintro e w1 ⟨⟨r, hrs, rfl⟩, e1⟩
    go_wp2
    go_ret
    exact ⟨⟨r, rfl, hrs, HQ.out r _⟩, Ext.trans HX.out e1⟩
  have q2' : (k0 == 2) = false := by simp [c2]
  have q3' : (k0 == 3) = false := by simp [c3]
  have q4' : (k0 == 4) = false := by simp [c4]
  obtain ⟨r, hr'⟩ : ∃ r : Nat, i0 = (r : Int) := ⟨i0.toNat, by omega⟩
  have hrs : r < sn := by omega
  have HR2 := hide hr'
  clear h ok hP hLD hok hr hbf hlk c2 c3 c4 hi hn hb hbu hr'
  go_enter Tryd.func14, Tryd.ntmps14
  have rr0 := (B0.out.ext ((Ext.refl _))).cell 0
  have rr1 := (B0.out.ext ((Ext.refl _))).cell 1
  have rr2 := (B0.out.ext ((Ext.refl _))).cell 2
  have p0 := (B1.out.ext ((Ext.refl _))).cell 0
  have p1 := (B1.out.ext ((Ext.refl _))).cell 1
  have p2 := (B1.out.ext ((Ext.refl _))).cell 2
  have p3 := (B1.out.ext ((Ext.refl _))).cell 3
  have p4 := (B1.out.ext ((Ext.refl _))).cell 4
  have p5 := (B1.out.ext ((Ext.refl _))).cell 5
  have p6 := (B1.out.ext ((Ext.refl _))).cell 6
  have p7 := (B1.out.ext ((Ext.refl _))).cell 7
  have p8 := (B1.out.ext ((Ext.refl _))).cell 8
  have p9 := (B1.out.ext ((Ext.refl _))).cell 9
  have p10 := (B1.out.ext ((Ext.refl _))).cell 10
  have p11 := (B1.out.ext ((Ext.refl _))).cell 11
  have p12 := (B1.out.ext ((Ext.refl _))).cell 12
  have p13 := (B1.out.ext ((Ext.refl _))).cell 13
  have s0_ := (B2.out.ext ((Ext.refl _))).cell 0
  have s1_ := (B2.out.ext ((Ext.refl _))).cell 1
  have s2_ := (B2.out.ext ((Ext.refl _))).cell 2
  have s3_ := (B2.out.ext ((Ext.refl _))).cell 3
  have s4_ := (B2.out.ext ((Ext.refl _))).cell 4
  go_wp2
  go_ret
  exact ⟨⟨r, ret_int HR2.out, hrs, HQ.out r _⟩, HX.out⟩
end
end Go.Proofs.YtfelgolfebhmkaaDoor
