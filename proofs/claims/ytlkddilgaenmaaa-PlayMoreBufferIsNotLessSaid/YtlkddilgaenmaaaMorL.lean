/- Proved: for every film, player, standing and number PlayMoreBufferIsNotLess returns true: a player that looks at its buffer alone does not choose a lesser rendition with more in the buffer; the arguments read as they did. Conditions: none. -/
import Derived.Test.YtlkddilgaenmaaaChoC
import Derived.Test.YtlkddilgaenmaaaAwakeP
import Derived.Test.YtlkddilgaenmaaaShows
import Derived.Test.YtlkddilgaenmaaaOpens3
import Derived.Test.YtlkddilgaenmaaaLawG
namespace Go.Proofs.Ytlkddilgaenmaaa
open Go.ChangeShapes Go.WideShapes Go.ChangeAt Go.RowKit Go.Joins Go.Deep
theorem cellsHaul : Try.prog.cellsOf 85 = 2 := by kernel_rfl
theorem cellsHauls : Try.prog.cellsOf 30 = 1 := by kernel_rfl
section
variable {H : Type} {enc : TypeId × Value → H} {W : World} {base : Nat}
theorem fldHauls {n : Nat} {v : Value} {y : DataW H × List MemPlace} (h : DataW.trod enc Try.prog W 0 (fun _ => true) true n 30 [v] = some y) : ∃ A n c l, v = .slice A n c ∧ At W 2 e2 A n c l := by
  obtain ⟨A, n, c, l, e, hA, _⟩ := fldElems (α := Int × Int) (en := e2) (good := fun _ => True) Try.underlying30 cellsHaul (by omega) (fun cs n y hl hy => by
    match cs, hl with
    | [c0, c1], _ =>
      obtain ⟨zs, m, hm, hz, _, hzl, hzg⟩ := DataW.trod_struct Try.underlying85 hy
      match zs, hzl with
      | [z0, z1], _ =>
        obtain ⟨x0, rfl⟩ := fldIntC (c := 0) Try.underlying3 cellsInt rfl (hzg 0 _ rfl)
        obtain ⟨x1, rfl⟩ := fldIntC (c := 1) Try.underlying3 cellsInt rfl (hzg 1 _ rfl)
        exact ⟨(x0, x1), trivial, rfl⟩) h
  exact ⟨A, n, c, l, e, hA⟩
set_option maxRecDepth 100000 in
set_option maxHeartbeats 1000000 in
theorem open_standing {v : Value} {d : DataW H} {p : List MemPlace} (hv : Value.okWide Try.prog W .any base 32 v) (h : DataW.Trod enc Try.prog W 0 (fun _ => true) true 32 v d p) :
    ∃ nx tm bu ldA ldn ldc bf l, v = .agg #[.int .i64 nx, .int .i64 tm, .int .i64 bu, .slice ldA ldn ldc, .int .i64 bf] ∧ At W 2 e2 ldA ldn ldc l := by
  obtain ⟨cs, rfl, hsz⟩ := okWide_struct Try.underlying32 hv
  obtain ⟨l⟩ := cs
  have hC : Try.prog.cellsOf 32 = 5 := by kernel_rfl
  match l, hsz.trans hC with
  | [c0, c1, c2, c3, c4], _ =>
    obtain ⟨fuel, hf⟩ := h
    obtain ⟨xs, n, _, hx, _, hlen, hg⟩ := DataW.trod_struct Try.underlying32 hf
    match xs, hlen with
    | [y0, y1, y2, y3, y4], _ =>
      obtain ⟨x0, rfl⟩ := fldIntC (c := 0) Try.underlying3 cellsInt rfl (hg 0 _ rfl)
      obtain ⟨x1, rfl⟩ := fldIntC (c := 1) Try.underlying3 cellsInt rfl (hg 1 _ rfl)
      obtain ⟨x2, rfl⟩ := fldIntC (c := 2) Try.underlying3 cellsInt rfl (hg 2 _ rfl)
      have h3 := fldSub (t := 30) (c := 3) (vs := [c3]) cellsHauls rfl (hg 3 _ rfl)
      obtain ⟨x4, rfl⟩ := fldIntC (c := 4) Try.underlying3 cellsInt rfl (hg 4 _ rfl)
      obtain ⟨ldA, ldn, ldc, l, rfl, hl⟩ := fldHauls h3
      exact ⟨x0, x1, x2, ldA, ldn, ldc, x4, l, rfl, hl⟩
end
section
variable {lA : Option Addr} {ln lc : Nat} {sA : Option Addr} {sn sc : Nat} {qA : Option Addr} {qn qc : Nat} {L : List Int} {S : List (List Int)} {Q : List Int} {d0 s0 r0 f0 i0 k0 l0 t0 lo0 hi0 a0 x0 y0 z0 : Int} {nx tm bu bf : Int} {ldA : Option Addr} {ldn ldc : Nat} {w : World} {LD : List (Int × Int)} {mo : Int}
theorem choF_zero (h : choF L S Q d0 s0 r0 f0 i0 k0 l0 t0 lo0 hi0 a0 x0 y0 z0 nx tm bu bf LD = 0) : filmF L S Q = 0 ∧ 0 ≤ bu ∧ bu ≤ 2000000000000 := by
  unfold choF at h
  repeat' (split at h)
  all_goals omega
theorem choF_more (h : choF L S Q d0 s0 r0 f0 i0 k0 l0 t0 lo0 hi0 a0 x0 y0 z0 nx tm bu bf LD = 0) (hm : 0 ≤ mo) : choF L S Q d0 s0 r0 f0 i0 k0 l0 t0 lo0 hi0 a0 x0 y0 z0 nx tm (bu + mo) bf LD = 1 ∨ choF L S Q d0 s0 r0 f0 i0 k0 l0 t0 lo0 hi0 a0 x0 y0 z0 nx tm (bu + mo) bf LD = 0 := by
  unfold choF at h ⊢
  split at h
  · omega
  rename_i g1
  rw [if_neg g1]
  split at h
  · omega
  rename_i g2
  rw [if_neg g2]
  split at h
  · omega
  rename_i g3
  split
  · exact Or.inl rfl
  split at h
  · omega
  rename_i g4
  rw [if_neg g4]
  exact Or.inr h
theorem choV_more (h : choF L S Q d0 s0 r0 f0 i0 k0 l0 t0 lo0 hi0 a0 x0 y0 z0 nx tm bu bf LD = 0) (hm : 0 ≤ mo) : bufC (ratesL L S) lo0 hi0 bu ≤ bufC (ratesL L S) lo0 hi0 (bu + mo) := by
  have ok := filmF_ok (choF_zero h).1
  have h0 := ok.s0
  refine bufC_mono (by rw [rates_len]; exact h0) ?_ hm
  have := rates_mono ok 0 (S.length - 1) (by omega)
  rwa [Nat.zero_add, ← rates_len (L := L)] at this
set_option maxRecDepth 1000000 in
set_option maxHeartbeats 8000000 in
theorem more_law (h : Shw w lA ln lc sA sn sc qA qn qc L S Q) (hLD : At w 2 e2 ldA ldn ldc LD) :
    Calls Try.prog 3 #[shV lA ln lc sA sn sc qA qn qc, plV d0 s0 r0 f0 i0 k0 l0 t0 lo0 hi0 a0 x0 y0 z0, .agg #[.int .i64 nx, .int .i64 tm, .int .i64 bu, .slice ldA ldn ldc, .int .i64 bf], .int .i64 mo] w fun e w' => e = .returned (.bool true) ∧ Ext w w' := by
  have HX : Hid (Ext w (((w.alloc (.cells #[.slice lA ln lc, .slice sA sn sc, .slice qA qn qc] 25)).alloc (.cells #[.int .i64 d0, .int .i64 s0, .int .i64 r0, .int .i64 f0, .int .i64 i0, .int .i64 k0, .int .i64 l0, .int .i64 t0, .int .i64 lo0, .int .i64 hi0, .int .i64 a0, .int .i64 x0, .int .i64 y0, .int .i64 z0] 29)).alloc (.cells #[.int .i64 nx, .int .i64 tm, .int .i64 bu, .slice ldA ldn ldc, .int .i64 bf] 32))) := hide (ext_alloc (ext_alloc (Ext.alloc _ _) _) _)
  have hb0 := ((Blk.new w 25 #[.slice lA ln lc, .slice sA sn sc, .slice qA qn qc]).alloc (.cells #[.int .i64 d0, .int .i64 s0, .int .i64 r0, .int .i64 f0, .int .i64 i0, .int .i64 k0, .int .i64 l0, .int .i64 t0, .int .i64 lo0, .int .i64 hi0, .int .i64 a0, .int .i64 x0, .int .i64 y0, .int .i64 z0] 29)).alloc (.cells #[.int .i64 nx, .int .i64 tm, .int .i64 bu, .slice ldA ldn ldc, .int .i64 bf] 32)
  have hb1 := (Blk.new (w.alloc (.cells #[.slice lA ln lc, .slice sA sn sc, .slice qA qn qc] 25)) 29 #[.int .i64 d0, .int .i64 s0, .int .i64 r0, .int .i64 f0, .int .i64 i0, .int .i64 k0, .int .i64 l0, .int .i64 t0, .int .i64 lo0, .int .i64 hi0, .int .i64 a0, .int .i64 x0, .int .i64 y0, .int .i64 z0]).alloc (.cells #[.int .i64 nx, .int .i64 tm, .int .i64 bu, .slice ldA ldn ldc, .int .i64 bf] 32)
  have hb2 := Blk.new ((w.alloc (.cells #[.slice lA ln lc, .slice sA sn sc, .slice qA qn qc] 25)).alloc (.cells #[.int .i64 d0, .int .i64 s0, .int .i64 r0, .int .i64 f0, .int .i64 i0, .int .i64 k0, .int .i64 l0, .int .i64 t0, .int .i64 lo0, .int .i64 hi0, .int .i64 a0, .int .i64 x0, .int .i64 y0, .int .i64 z0] 29)) 32 #[.int .i64 nx, .int .i64 tm, .int .i64 bu, .slice ldA ldn ldc, .int .i64 bf]
  simp only [World.size_alloc] at hb1 hb2
  have B0 := hide hb0
  have B1 := hide hb1
  have B2 := hide hb2
  clear hb0 hb1 hb2
  have HAW := hide (fun (W : World) => awake_any W)
  by_cases hk : k0 = 3
  case neg =>
    have q3' : (k0 != 3) = true := by simp [hk]
    clear h hLD hk
    go_enter Try.func3, Try.ntmps3
    have rr0 := (B0.out.ext ((Ext.refl _))).cell 0
    have rr1 := (B0.out.ext ((Ext.refl _))).cell 1
    have rr2 := (B0.out.ext ((Ext.refl _))).cell 2
    have p0 := (B1.out.ext ((Ext.refl _))).cell 0
    have p1 := (B1.out.ext ((Ext.refl _))).cell 1
    have p2 := (B1.out.ext ((Ext.refl _))).cell 2
    have p3 := (B1.out.ext ((Ext.refl _))).cell 3
    have p4 := (B1.out.ext ((Ext.refl _))).cell 4
    have p5 := (B1.out.ext ((Ext.refl _))).cell 5
    have p6 := (B1.out.ext ((Ext.refl _))).cell 6
    have p7 := (B1.out.ext ((Ext.refl _))).cell 7
    have p8 := (B1.out.ext ((Ext.refl _))).cell 8
    have p9 := (B1.out.ext ((Ext.refl _))).cell 9
    have p10 := (B1.out.ext ((Ext.refl _))).cell 10
    have p11 := (B1.out.ext ((Ext.refl _))).cell 11
    have p12 := (B1.out.ext ((Ext.refl _))).cell 12
    have p13 := (B1.out.ext ((Ext.refl _))).cell 13
    have s0_ := (B2.out.ext ((Ext.refl _))).cell 0
    have s1_ := (B2.out.ext ((Ext.refl _))).cell 1
    have s2_ := (B2.out.ext ((Ext.refl _))).cell 2
    have s3_ := (B2.out.ext ((Ext.refl _))).cell 3
    have s4_ := (B2.out.ext ((Ext.refl _))).cell 4
    go_wp2_with fail
    refine (HAW.out _).mono ?_
    rintro e w7 ⟨rfl, e7⟩
    go_wp2
    go_ret
    exact ⟨rfl, Ext.trans HX.out e7⟩
  have q3' : (k0 != 3) = false := by simp [hk]
  by_cases hm : mo < 0 ∨ 1000000000000 < mo
  · clear h hLD hk
    by_cases hm1 : mo < 0
    · clear hm
      go_enter Try.func3, Try.ntmps3
      have rr0 := (B0.out.ext ((Ext.refl _))).cell 0
      have rr1 := (B0.out.ext ((Ext.refl _))).cell 1
      have rr2 := (B0.out.ext ((Ext.refl _))).cell 2
      have p0 := (B1.out.ext ((Ext.refl _))).cell 0
      have p1 := (B1.out.ext ((Ext.refl _))).cell 1
      have p2 := (B1.out.ext ((Ext.refl _))).cell 2
      have p3 := (B1.out.ext ((Ext.refl _))).cell 3
      have p4 := (B1.out.ext ((Ext.refl _))).cell 4
      have p5 := (B1.out.ext ((Ext.refl _))).cell 5
      have p6 := (B1.out.ext ((Ext.refl _))).cell 6
      have p7 := (B1.out.ext ((Ext.refl _))).cell 7
      have p8 := (B1.out.ext ((Ext.refl _))).cell 8
      have p9 := (B1.out.ext ((Ext.refl _))).cell 9
      have p10 := (B1.out.ext ((Ext.refl _))).cell 10
      have p11 := (B1.out.ext ((Ext.refl _))).cell 11
      have p12 := (B1.out.ext ((Ext.refl _))).cell 12
      have p13 := (B1.out.ext ((Ext.refl _))).cell 13
      have s0_ := (B2.out.ext ((Ext.refl _))).cell 0
      have s1_ := (B2.out.ext ((Ext.refl _))).cell 1
      have s2_ := (B2.out.ext ((Ext.refl _))).cell 2
      have s3_ := (B2.out.ext ((Ext.refl _))).cell 3
      have s4_ := (B2.out.ext ((Ext.refl _))).cell 4
      go_wp2_with fail
      refine (HAW.out _).mono ?_
      rintro e w7 ⟨rfl, e7⟩
      go_wp2
      go_ret
      exact ⟨rfl, Ext.trans HX.out e7⟩
    · have hm2 : 1000000000000 < mo := by omega
      clear hm
      go_enter Try.func3, Try.ntmps3
      have rr0 := (B0.out.ext ((Ext.refl _))).cell 0
      have rr1 := (B0.out.ext ((Ext.refl _))).cell 1
      have rr2 := (B0.out.ext ((Ext.refl _))).cell 2
      have p0 := (B1.out.ext ((Ext.refl _))).cell 0
      have p1 := (B1.out.ext ((Ext.refl _))).cell 1
      have p2 := (B1.out.ext ((Ext.refl _))).cell 2
      have p3 := (B1.out.ext ((Ext.refl _))).cell 3
      have p4 := (B1.out.ext ((Ext.refl _))).cell 4
      have p5 := (B1.out.ext ((Ext.refl _))).cell 5
      have p6 := (B1.out.ext ((Ext.refl _))).cell 6
      have p7 := (B1.out.ext ((Ext.refl _))).cell 7
      have p8 := (B1.out.ext ((Ext.refl _))).cell 8
      have p9 := (B1.out.ext ((Ext.refl _))).cell 9
      have p10 := (B1.out.ext ((Ext.refl _))).cell 10
      have p11 := (B1.out.ext ((Ext.refl _))).cell 11
      have p12 := (B1.out.ext ((Ext.refl _))).cell 12
      have p13 := (B1.out.ext ((Ext.refl _))).cell 13
      have s0_ := (B2.out.ext ((Ext.refl _))).cell 0
      have s1_ := (B2.out.ext ((Ext.refl _))).cell 1
      have s2_ := (B2.out.ext ((Ext.refl _))).cell 2
      have s3_ := (B2.out.ext ((Ext.refl _))).cell 3
      have s4_ := (B2.out.ext ((Ext.refl _))).cell 4
      go_wp2_with fail
      refine (HAW.out _).mono ?_
      rintro e w7 ⟨rfl, e7⟩
      go_wp2
      go_ret
      exact ⟨rfl, Ext.trans HX.out e7⟩
  have hm1 : ¬ mo < 0 := by omega
  have hm2 : ¬ 1000000000000 < mo := by omega
  have HK1 := hide (fun (W : World) (hW : Ext w W) => keyChooseB_any (d0 := d0) (s0 := s0) (r0 := r0) (f0 := f0) (i0 := i0) (k0 := k0) (l0 := l0) (t0 := t0) (lo0 := lo0) (hi0 := hi0) (a0 := a0) (x0 := x0) (y0 := y0) (z0 := z0) (nx := nx) (tm := tm) (bu := bu) (bf := bf) (h.ext hW) (hLD.ext hW) hk)
  have HK2 := hide (fun (W : World) (hW : Ext w W) => keyChooseB_any (d0 := d0) (s0 := s0) (r0 := r0) (f0 := f0) (i0 := i0) (k0 := k0) (l0 := l0) (t0 := t0) (lo0 := lo0) (hi0 := hi0) (a0 := a0) (x0 := x0) (y0 := y0) (z0 := z0) (nx := nx) (tm := tm) (bu := bu + mo) (bf := bf) (h.ext hW) (hLD.ext hW) hk)
  have HZ := hide (fun hz : choF L S Q d0 s0 r0 f0 i0 k0 l0 t0 lo0 hi0 a0 x0 y0 z0 nx tm bu bf LD = 0 => (choF_zero hz).2)
  have HF := hide (fun hz : choF L S Q d0 s0 r0 f0 i0 k0 l0 t0 lo0 hi0 a0 x0 y0 z0 nx tm bu bf LD = 0 => choF_more hz (mo := mo) (by omega))
  have HV := hide (fun hz : choF L S Q d0 s0 r0 f0 i0 k0 l0 t0 lo0 hi0 a0 x0 y0 z0 nx tm bu bf LD = 0 => choV_more hz (mo := mo) (by omega))
  clear h hLD hk hm
  generalize choF L S Q d0 s0 r0 f0 i0 k0 l0 t0 lo0 hi0 a0 x0 y0 z0 nx tm bu bf LD = F1 at *
  generalize choF L S Q d0 s0 r0 f0 i0 k0 l0 t0 lo0 hi0 a0 x0 y0 z0 nx tm (bu + mo) bf LD = F2 at *
  generalize bufC (ratesL L S) lo0 hi0 bu = C1 at *
  generalize bufC (ratesL L S) lo0 hi0 (bu + mo) = C2 at *
  obtain ⟨V1, hV1⟩ : ∃ V1, V1 = (if F1 = 0 then C1 else 0) := ⟨_, rfl⟩
  obtain ⟨V2, hV2⟩ : ∃ V2, V2 = (if F2 = 0 then C2 else 0) := ⟨_, rfl⟩
  rw [← hV1] at HK1
  rw [← hV2] at HK2
  have HV1 := hide hV1
  have HV2 := hide hV2
  clear hV1 hV2
  go_enter Try.func3, Try.ntmps3
  have rr0 := (B0.out.ext ((Ext.refl _))).cell 0
  have rr1 := (B0.out.ext ((Ext.refl _))).cell 1
  have rr2 := (B0.out.ext ((Ext.refl _))).cell 2
  have p0 := (B1.out.ext ((Ext.refl _))).cell 0
  have p1 := (B1.out.ext ((Ext.refl _))).cell 1
  have p2 := (B1.out.ext ((Ext.refl _))).cell 2
  have p3 := (B1.out.ext ((Ext.refl _))).cell 3
  have p4 := (B1.out.ext ((Ext.refl _))).cell 4
  have p5 := (B1.out.ext ((Ext.refl _))).cell 5
  have p6 := (B1.out.ext ((Ext.refl _))).cell 6
  have p7 := (B1.out.ext ((Ext.refl _))).cell 7
  have p8 := (B1.out.ext ((Ext.refl _))).cell 8
  have p9 := (B1.out.ext ((Ext.refl _))).cell 9
  have p10 := (B1.out.ext ((Ext.refl _))).cell 10
  have p11 := (B1.out.ext ((Ext.refl _))).cell 11
  have p12 := (B1.out.ext ((Ext.refl _))).cell 12
  have p13 := (B1.out.ext ((Ext.refl _))).cell 13
  have s0_ := (B2.out.ext ((Ext.refl _))).cell 0
  have s1_ := (B2.out.ext ((Ext.refl _))).cell 1
  have s2_ := (B2.out.ext ((Ext.refl _))).cell 2
  have s3_ := (B2.out.ext ((Ext.refl _))).cell 3
  have s4_ := (B2.out.ext ((Ext.refl _))).cell 4
  go_wp2_with fail
  refine (HK1.out _ HX.out).mono ?_
  rintro e w1 ⟨rfl, e1'⟩
  clear rr0 rr1 rr2 p0 p1 p2 p3 p4 p5 p6 p7 p8 p9 p10 p11 p12 p13 s0_ s1_ s2_ s3_ s4_
  have E1 := hide e1'
  clear e1'
  by_cases hF1 : F1 = 0
  case neg =>
    have hv : V1 = 0 := by rw [HV1.out, if_neg hF1]
    subst hv
    have b1 : (F1 != 0) = true := by simp [hF1]
    clear hF1
    go_wp2_with fail
    refine (HAW.out _).mono ?_
    rintro e w7 ⟨rfl, e7⟩
    go_wp2
    go_ret
    exact ⟨rfl, Ext.trans HX.out (Ext.trans E1.out e7)⟩
  have b1 : (F1 != 0) = false := by simp [hF1]
  have hbu := HZ.out hF1
  have hFF := HF.out hF1
  have hVV : V1 ≤ C2 := by rw [HV1.out, if_pos hF1]; exact HV.out hF1
  have hbm : IntKind.i64.wrap (bu + mo) = bu + mo := by rw [IntKind.wrap_i64]; omega
  have hB2 := B2.out.ext E1.out
  have f2 := hB2.frozen 2
  have rr0 := (B0.out.ext (E1.out)).cell 0
  have rr1 := (B0.out.ext (E1.out)).cell 1
  have rr2 := (B0.out.ext (E1.out)).cell 2
  have p0 := (B1.out.ext (E1.out)).cell 0
  have p1 := (B1.out.ext (E1.out)).cell 1
  have p2 := (B1.out.ext (E1.out)).cell 2
  have p3 := (B1.out.ext (E1.out)).cell 3
  have p4 := (B1.out.ext (E1.out)).cell 4
  have p5 := (B1.out.ext (E1.out)).cell 5
  have p6 := (B1.out.ext (E1.out)).cell 6
  have p7 := (B1.out.ext (E1.out)).cell 7
  have p8 := (B1.out.ext (E1.out)).cell 8
  have p9 := (B1.out.ext (E1.out)).cell 9
  have p10 := (B1.out.ext (E1.out)).cell 10
  have p11 := (B1.out.ext (E1.out)).cell 11
  have p12 := (B1.out.ext (E1.out)).cell 12
  have p13 := (B1.out.ext (E1.out)).cell 13
  have s0_ := (B2.out.ext (E1.out)).cell 0
  have s1_ := (B2.out.ext (E1.out)).cell 1
  have s2_ := (B2.out.ext (E1.out)).cell 2
  have s3_ := (B2.out.ext (E1.out)).cell 3
  have s4_ := (B2.out.ext (E1.out)).cell 4
  clear hF1 HZ HF HV HK1
  go_upto_region 7 with (fail)
  refine gen_wpC fun w9 h9 => ?_
  have T9 : Tw w1 w9 (w.heap.size + 1 + 1) none := by rw [h9]; (repeat' (first | (with_reducible exact Tw.refl _ _ _) | (with_reducible refine Tw.drew ?_) | (with_reducible refine Tw.drewN ?_ _) | (with_reducible refine Tw.trans ?_ (Tw.set_ _ _ _ _ _))))
  have X1 := Ext.trans HX.out E1.out
  have X9 := hide (Below.trans X1 (T9.below X1.size (by omega) (fun b hb => by cases hb)))
  have N0 := hide (T9.blk (B0.out.ext E1.out) (by omega) (by simp))
  have N1 := hide (T9.blk (B1.out.ext E1.out) (by omega) (by simp))
  have N2 : Hid (Blk w9 (w.heap.size + 1 + 1) 32 #[.int .i64 nx, .int .i64 tm, .int .i64 (bu + mo), .slice ldA ldn ldc, .int .i64 bf]) := hide (by rw [h9]; first | exact (B2.out.ext E1.out).set_ 2 _ | exact (B2.out.ext E1.out).drew.set_ 2 _)
  clear h9 T9 f2 hB2
  clear rr0 rr1 rr2 p0 p1 p2 p3 p4 p5 p6 p7 p8 p9 p10 p11 p12 p13 s0_ s1_ s2_ s3_ s4_
  have rr0 := (N0.out.ext ((Ext.refl _))).cell 0
  have rr1 := (N0.out.ext ((Ext.refl _))).cell 1
  have rr2 := (N0.out.ext ((Ext.refl _))).cell 2
  have p0 := (N1.out.ext ((Ext.refl _))).cell 0
  have p1 := (N1.out.ext ((Ext.refl _))).cell 1
  have p2 := (N1.out.ext ((Ext.refl _))).cell 2
  have p3 := (N1.out.ext ((Ext.refl _))).cell 3
  have p4 := (N1.out.ext ((Ext.refl _))).cell 4
  have p5 := (N1.out.ext ((Ext.refl _))).cell 5
  have p6 := (N1.out.ext ((Ext.refl _))).cell 6
  have p7 := (N1.out.ext ((Ext.refl _))).cell 7
  have p8 := (N1.out.ext ((Ext.refl _))).cell 8
  have p9 := (N1.out.ext ((Ext.refl _))).cell 9
  have p10 := (N1.out.ext ((Ext.refl _))).cell 10
  have p11 := (N1.out.ext ((Ext.refl _))).cell 11
  have p12 := (N1.out.ext ((Ext.refl _))).cell 12
  have p13 := (N1.out.ext ((Ext.refl _))).cell 13
  have s0_ := (N2.out.ext ((Ext.refl _))).cell 0
  have s1_ := (N2.out.ext ((Ext.refl _))).cell 1
  have s2_ := (N2.out.ext ((Ext.refl _))).cell 2
  have s3_ := (N2.out.ext ((Ext.refl _))).cell 3
  have s4_ := (N2.out.ext ((Ext.refl _))).cell 4
  go_wp2_with fail
  refine (HK2.out _ X9.out).mono ?_
  rintro e w4 ⟨rfl, e4⟩
  have X4 := hide (Ext.trans X9.out e4)
  clear rr0 rr1 rr2 p0 p1 p2 p3 p4 p5 p6 p7 p8 p9 p10 p11 p12 p13 s0_ s1_ s2_ s3_ s4_
  clear e4 N0 N1 N2 X9 HK2 B0 B1 B2 HX E1 X1
  rcases hFF with rfl | rfl
  · go_wp2_with fail
    refine (HAW.out _).mono ?_
    rintro e w7 ⟨rfl, e7⟩
    go_wp2
    go_ret
    exact ⟨rfl, Ext.trans X4.out e7⟩
  · have hv2 : V2 = C2 := by rw [HV2.out, if_pos rfl]
    have hge : V1 ≤ V2 := by omega
    clear HV1 HV2
    go_wp2_with fail
    refine (HAW.out _).mono ?_
    rintro e w7 ⟨rfl, e7⟩
    go_wp2
    go_ret
    exact ⟨rfl, Ext.trans X4.out e7⟩
end
set_option maxRecDepth 100000 in
theorem playMoreBufferIsNotLess_lifted (os : Os) (started : os.Started) (H : Type) (enc : TypeId × Value → H) :
    ReturnsInHanded {} Try.checked os 3 .any (Rows.playMoreBufferIsNotLessSpec.pre6 enc Try.prog Try.f3 Rows.playMoreBufferIsNotLessRow.domain false) (Rows.playMoreBufferIsNotLessSpec.post enc Try.prog Try.f3 false true false false) := by
  refine returnsInHanded_of_change_sized (C := Try.checked) Try.own started (by kernel_rfl) Try.func3
    (ChangeSpec.witness6 (enc := enc) (C := Try.checked) false ⟨#[], #[.agg #[.slice none 0 0, .slice none 0 0, .slice none 0 0], .agg #[.int .i64 0, .int .i64 0, .int .i64 0, .int .i64 0, .int .i64 0, .int .i64 0, .int .i64 0, .int .i64 0, .int .i64 0, .int .i64 0, .int .i64 0, .int .i64 0, .int .i64 0, .int .i64 0], .agg #[.int .i64 0, .int .i64 0, .int .i64 0, .slice none 0 0, .int .i64 0], .int .i64 0], []⟩ 8 (by kernel_rfl) (by kernel_rfl) (by kernel_rfl) (by kernel_rfl)) ?_
  intro W base args ds gs before hval0 hW _ _ _
  have hval : ∀ (j : Nat) t v, Try.f3.params[j]? = some t → args[j]? = some v → Value.okWide Try.prog W .any base t v := hval0
  have hW' := hW
  obtain ⟨p, q, hA0, hV, rfl, _, _⟩ := hW
  have hA : DataW.TrodAll enc Try.prog W 0 (fun _ => true) true Try.f3.params.toList args.toList ds p := hA0
  rw [Try.params3] at hA hval
  obtain ⟨v0, v1, v2, v3, d0, d1, d2, d3, p0, p1, p2, p3, rfl, rfl, rfl, h0, h1, h2, h3⟩ := trodAll_four hA
  obtain ⟨lA, ln, lc, sA, sn, sc, qA, qn, qc, L, S, Q, rfl, hSh⟩ := open_show (hval 0 25 v0 rfl rfl) h0
  obtain ⟨q0, q1, q2, q3, q4, q5, q6, q7, q8, q9, q10, q11, q12, q13, rfl⟩ := open_player (hval 1 29 v1 rfl rfl) h1
  obtain ⟨nx, tm, bu, ldA, ldn, ldc, bf, l2, rfl, hAt2⟩ := open_standing (hval 2 32 v2 rfl rfl) h2
  obtain ⟨x3, rfl, rfl, rfl, _⟩ := open_int Try.underlying3 (hval 3 3 v3 rfl rfl) h3
  refine (more_law hSh hAt2).mono fun e W' ⟨he, hE⟩ => ?_
  subst he
  exact ⟨_, rfl, law_post Try.laidOut Try.underlying4 hW' rfl rfl rfl (by kernel_rfl) hE⟩
theorem playMoreBufferIsNotLess_closed : joinedFacts Try.prog 3 Try.f3 Rows.playMoreBufferIsNotLessSpec Rows.playMoreBufferIsNotLessRow = true :=
  joined_of Try.laidOut Try.mapsRowed Try.plainKeys Try.stopsHeard Try.stopsNone Try.knobsNone Try.mayEnter Try.makeCut Try.liftsFinal rfl rfl rfl (by as_aux_lemma => kernel_rfl)
    (by as_aux_lemma => kernel_rfl) (by as_aux_lemma => kernel_rfl) (by as_aux_lemma => kernel_rfl) (by as_aux_lemma => kernel_rfl) (by as_aux_lemma => kernel_rfl) (by as_aux_lemma => kernel_rfl) (by as_aux_lemma => kernel_rfl) (by as_aux_lemma => kernel_rfl) (by as_aux_lemma => kernel_rfl) (by as_aux_lemma => kernel_rfl)
theorem playMoreBufferIsNotLess_holds : Rows.PlayMoreBufferIsNotLessSaid :=
  OpenClaim.holds_of_wide 3 Try.f3 rfl rfl rfl rfl rfl rfl rfl ⟨rfl, rfl, rfl, rfl, rfl⟩ rfl rfl rfl rfl rfl (by as_aux_lemma => kernel_rfl) Try.func3 playMoreBufferIsNotLess_closed
    (of_decide_eq_true (by kernel_rfl)) (by unfold Func.isWrapper; first | (rw [if_pos (by decide +kernel)]; kernel_rfl) | (rw [if_neg (by decide +kernel)]; exact ⟨rfl, rfl⟩))
    (fun os started H enc _ => playMoreBufferIsNotLess_lifted os started H enc)
#print axioms playMoreBufferIsNotLess_holds

end Go.Proofs.Ytlkddilgaenmaaa
