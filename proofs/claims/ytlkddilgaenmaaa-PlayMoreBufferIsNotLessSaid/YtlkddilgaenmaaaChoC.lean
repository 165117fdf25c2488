/- Walks: loadsFault; choose and Choose of a player that looks at its buffer alone. Conditions as stated. -/
import Derived.Test.YtlkddilgaenmaaaChoB
import Derived.Test.YtlkddilgaenmaaaRunB
namespace Go.Proofs.Ytlkddilgaenmaaa
open Go.RowKit
/-- A load is right. -/
def okH (x : Int × Int) : Bool := decide (0 ≤ x.1 ∧ x.1 ≤ 1000000000 ∧ 0 ≤ x.2 ∧ x.2 ≤ 2000000000000)
/-- The fault of loads. -/
def hauF (l : List (Int × Int)) : Int := if 200 < l.length then 2 else if l.all okH = true then 0 else 1
theorem all_get {l : List (Int × Int)} (h : ∀ j, j < l.length → okH (l.getD j (0, 0)) = true) : l.all okH = true := by
  rw [List.all_eq_true]
  intro x hx
  obtain ⟨i, hi, rfl⟩ := List.mem_iff_getElem.1 hx
  have := h i hi
  rwa [show l.getD i (0, 0) = l[i] by simp [List.getD, hi]] at this
theorem not_all {l : List (Int × Int)} {j : Nat} (hj : j < l.length) (h : okH (l.getD j (0, 0)) = false) : l.all okH = false := by
  rw [List.all_eq_false]
  refine ⟨l[j], List.getElem_mem _, ?_⟩
  rw [show l.getD j (0, 0) = l[j] by simp [List.getD, hj]] at h
  simp [h]
set_option maxRecDepth 100000 in
set_option maxHeartbeats 4000000 in
theorem loadsFault_any {A : Option Addr} {n c : Nat} {l : List (Int × Int)} {w : World} (h : At w 2 e2 A n c l) :
    Calls Try.prog 24 #[.slice A n c] w fun e w' => e = .returned (.int .i64 (hauF l)) ∧ Ext w w' := by
  have hb := h.bound
  have hl := h.len
  by_cases h5 : 200 < n
  · have HF : Hid (hauF l = 2) := hide (by unfold hauF; rw [if_pos (by omega)])
    clear hl h
    go_enter Try.func24, Try.ntmps24
    go_wp2_with fail
    go_ret
    exact ⟨ret_int HF.out.symm, (by repeat' (first | (with_reducible exact Below.refl _ _) | (with_reducible assumption) | (with_reducible refine below_drewN ?_ _) | (with_reducible refine Below.drew ?_) | (with_reducible refine ext_alloc ?_ _) | (with_reducible refine Below.setCell ?_ ?_ _) | go_size))⟩
  have h5' : n ≤ 200 := by omega
  have HG : Hid ((∀ j, j < n → okH (l.getD j (0, 0)) = true) → hauF l = 0) := hide (fun ha => by
    unfold hauF; rw [if_neg (by omega), if_pos (all_get (fun j hj => ha j (by omega)))])
  have HB : Hid (∀ j, j < n → okH (l.getD j (0, 0)) = false → hauF l = 1) := hide (fun j hj hf => by
    unfold hauF; rw [if_neg (by omega), if_neg (by rw [not_all (by omega) hf]; simp)])
  have H := hide h
  generalize hauF l = v at *
  clear hl h h5
  go_enter Try.func24, Try.ntmps24
  go_wp2_with fail
  go_loopw [10] (fun ri wr => ∃ k : Nat, k ≤ n ∧ ri = .int .i64 k ∧ Hid (∀ j, j < k → okH (l.getD j (0, 0)) = true) ∧ Hid (Ext w wr)) (fun ri _ => n - (intOf ri).toNat)
  case atStart => exact ⟨0, by omega, rfl, hide (fun j hj => by omega), hide (Ext.refl _)⟩
  case round =>
    obtain ⟨k, hk, rfl, HA, HX⟩ := hrel
    by_cases hlt : k < n
    · obtain ⟨b, off, rfl, _⟩ := H.out.addr (by omega)
      obtain ⟨a1, a2⟩ := (H.out.ext HX.out).pair hlt
      have HR : Hid (okH (l.getD k (0, 0)) = false → v = 1) := hide (HB.out k hlt)
      have HK : Hid (okH (l.getD k (0, 0)) = true → ∀ j, j < k + 1 → okH (l.getD j (0, 0)) = true) := hide (fun h0 j hj => by
        rcases Nat.lt_succ_iff_lt_or_eq.1 hj with h | h
        · exact HA.out j h
        · rw [h]; exact h0)
      have HO : Hid (okH (l.getD k (0, 0)) = decide (0 ≤ (l.getD k (0, 0)).1 ∧ (l.getD k (0, 0)).1 ≤ 1000000000 ∧ 0 ≤ (l.getD k (0, 0)).2 ∧ (l.getD k (0, 0)).2 ≤ 2000000000000)) := hide rfl
      generalize okH (l.getD k (0, 0)) = ok at *
      generalize (l.getD k (0, 0)).1 = y0 at *
      generalize (l.getD k (0, 0)).2 = y1 at *
      by_cases hA : y0 < 0 ∨ 1000000000 < y0
      · have HF := hide (HR.out (by rw [HO.out]; exact decide_eq_false (by omega)))
        clear HR HK HO HB
        go_wp2_with (first | ((go_at_call 23; with_reducible refine (out_no ?_ _).mono ?_); (focus omega); rintro e w' ⟨rfl, rfl⟩) | ((go_at_call 23; with_reducible refine (out_yes ?_ _).mono ?_); (focus omega); rintro e w' ⟨rfl, rfl⟩))
        go_ret
        exact ⟨ret_int HF.out.symm, Ext.trans HX.out (by repeat' (first | (with_reducible exact Below.refl _ _) | (with_reducible assumption) | (with_reducible refine below_drewN ?_ _) | (with_reducible refine Below.drew ?_) | (with_reducible refine ext_alloc ?_ _) | (with_reducible refine Below.setCell ?_ ?_ _) | go_size))⟩
      have hA' : 0 ≤ y0 ∧ y0 ≤ 1000000000 := by omega
      by_cases hB : y1 < 0 ∨ 2000000000000 < y1
      · have HF := hide (HR.out (by rw [HO.out]; exact decide_eq_false (by omega)))
        clear HR HK HO HB hA
        go_wp2_with (first | ((go_at_call 23; with_reducible refine (out_no ?_ _).mono ?_); (focus omega); rintro e w' ⟨rfl, rfl⟩) | ((go_at_call 23; with_reducible refine (out_yes ?_ _).mono ?_); (focus omega); rintro e w' ⟨rfl, rfl⟩))
        go_ret
        exact ⟨ret_int HF.out.symm, Ext.trans HX.out (by repeat' (first | (with_reducible exact Below.refl _ _) | (with_reducible assumption) | (with_reducible refine below_drewN ?_ _) | (with_reducible refine Below.drew ?_) | (with_reducible refine ext_alloc ?_ _) | (with_reducible refine Below.setCell ?_ ?_ _) | go_size))⟩
      have hB' : 0 ≤ y1 ∧ y1 ≤ 2000000000000 := by omega
      have HF := hide (HK.out (by rw [HO.out]; exact decide_eq_true (by omega)))
      clear HR HK HO HB hA hB
      go_wp2_with (first | ((go_at_call 23; with_reducible refine (out_no ?_ _).mono ?_); (focus omega); rintro e w' ⟨rfl, rfl⟩) | ((go_at_call 23; with_reducible refine (out_yes ?_ _).mono ?_); (focus omega); rintro e w' ⟨rfl, rfl⟩))
      go_roundw
      case rel => exact ⟨k + 1, by omega, by go_num, HF, hide (Ext.trans HX.out (by repeat' (first | (with_reducible exact Below.refl _ _) | (with_reducible assumption) | (with_reducible refine below_drewN ?_ _) | (with_reducible refine Below.drew ?_) | (with_reducible refine ext_alloc ?_ _) | (with_reducible refine Below.setCell ?_ ?_ _) | go_size)))⟩
      case measure => simp [intOf]; omega
    · obtain rfl : k = n := by omega
      have HF := hide (HG.out HA.out)
      go_wp2
      go_ret
      exact ⟨ret_int HF.out.symm, Ext.trans HX.out (by repeat' (first | (with_reducible exact Below.refl _ _) | (with_reducible assumption) | (with_reducible refine below_drewN ?_ _) | (with_reducible refine Below.drew ?_) | (with_reducible refine ext_alloc ?_ _) | (with_reducible refine Below.setCell ?_ ?_ _) | go_size))⟩
section
variable {lA : Option Addr} {ln lc : Nat} {sA : Option Addr} {sn sc : Nat} {qA : Option Addr} {qn qc : Nat} {L : List Int} {S : List (List Int)} {Q : List Int} {d0 s0 r0 f0 i0 k0 l0 t0 lo0 hi0 a0 x0 y0 z0 : Int} {nx tm bu bf : Int} {ldA : Option Addr} {ldn ldc : Nat} {w : World} {LD : List (Int × Int)}
set_option maxRecDepth 1000000 in
set_option maxHeartbeats 8000000 in
theorem chooseB_any (h : Shw w lA ln lc sA sn sc qA qn qc L S Q) (ok : FilmOk L S Q) (hk : k0 = 3) (hlo : 0 ≤ lo0 ∧ lo0 < hi0 ∧ hi0 ≤ 1000000000) (hbu : 0 ≤ bu ∧ bu ≤ 2000000000000) :
    Calls Try.prog 25 #[shV lA ln lc sA sn sc qA qn qc, plV d0 s0 r0 f0 i0 k0 l0 t0 lo0 hi0 a0 x0 y0 z0, .agg #[.int .i64 nx, .int .i64 tm, .int .i64 bu, .slice ldA ldn ldc, .int .i64 bf]] w fun e w' => e = .returned (.int .i64 (bufC (ratesL L S) lo0 hi0 bu)) ∧ Ext w w' := by
  have q2' : (k0 == 2) = false := by rw [hk]; rfl
  have q3' : (k0 == 3) = true := by rw [hk]; rfl
  clear hk
  have HB := hide (fun (W : World) (hW : Ext w W) => byBuffer_any (d0 := d0) (s0 := s0) (r0 := r0) (f0 := f0) (i0 := i0) (k0 := k0) (l0 := l0) (t0 := t0) (lo0 := lo0) (hi0 := hi0) (a0 := a0) (x0 := x0) (y0 := y0) (z0 := z0) (nx := nx) (tm := tm) (bu := bu) (bf := bf) (ldA := ldA) (ldn := ldn) (ldc := ldc) (h.ext hW) ok hlo hbu)
  generalize bufC (ratesL L S) lo0 hi0 bu = v at *
  clear h ok hlo hbu
  have HX : Hid (Ext w (((w.alloc (.cells #[.slice lA ln lc, .slice sA sn sc, .slice qA qn qc] 25)).alloc (.cells #[.int .i64 d0, .int .i64 s0, .int .i64 r0, .int .i64 f0, .int .i64 i0, .int .i64 k0, .int .i64 l0, .int .i64 t0, .int .i64 lo0, .int .i64 hi0, .int .i64 a0, .int .i64 x0, .int .i64 y0, .int .i64 z0] 29)).alloc (.cells #[.int .i64 nx, .int .i64 tm, .int .i64 bu, .slice ldA ldn ldc, .int .i64 bf] 32))) := hide (ext_alloc (ext_alloc (Ext.alloc _ _) _) _)
  have hb0 := ((Blk.new w 25 #[.slice lA ln lc, .slice sA sn sc, .slice qA qn qc]).alloc (.cells #[.int .i64 d0, .int .i64 s0, .int .i64 r0, .int .i64 f0, .int .i64 i0, .int .i64 k0, .int .i64 l0, .int .i64 t0, .int .i64 lo0, .int .i64 hi0, .int .i64 a0, .int .i64 x0, .int .i64 y0, .int .i64 z0] 29)).alloc (.cells #[.int .i64 nx, .int .i64 tm, .int .i64 bu, .slice ldA ldn ldc, .int .i64 bf] 32)
  have hb1 := (Blk.new (w.alloc (.cells #[.slice lA ln lc, .slice sA sn sc, .slice qA qn qc] 25)) 29 #[.int .i64 d0, .int .i64 s0, .int .i64 r0, .int .i64 f0, .int .i64 i0, .int .i64 k0, .int .i64 l0, .int .i64 t0, .int .i64 lo0, .int .i64 hi0, .int .i64 a0, .int .i64 x0, .int .i64 y0, .int .i64 z0]).alloc (.cells #[.int .i64 nx, .int .i64 tm, .int .i64 bu, .slice ldA ldn ldc, .int .i64 bf] 32)
  have hb2 := Blk.new ((w.alloc (.cells #[.slice lA ln lc, .slice sA sn sc, .slice qA qn qc] 25)).alloc (.cells #[.int .i64 d0, .int .i64 s0, .int .i64 r0, .int .i64 f0, .int .i64 i0, .int .i64 k0, .int .i64 l0, .int .i64 t0, .int .i64 lo0, .int .i64 hi0, .int .i64 a0, .int .i64 x0, .int .i64 y0, .int .i64 z0] 29)) 32 #[.int .i64 nx, .int .i64 tm, .int .i64 bu, .slice ldA ldn ldc, .int .i64 bf]
  simp only [World.size_alloc] at hb1 hb2
  have B0 := hide hb0
  have B1 := hide hb1
  have B2 := hide hb2
  clear hb0 hb1 hb2
  go_enter Try.func25, Try.ntmps25
  have rr0 := (B0.out.ext ((Ext.refl _))).cell 0
  have rr1 := (B0.out.ext ((Ext.refl _))).cell 1
  have rr2 := (B0.out.ext ((Ext.refl _))).cell 2
  have p0 := (B1.out.ext ((Ext.refl _))).cell 0
  have p1 := (B1.out.ext ((Ext.refl _))).cell 1
  have p2 := (B1.out.ext ((Ext.refl _))).cell 2
  have p3 := (B1.out.ext ((Ext.refl _))).cell 3
  have p4 := (B1.out.ext ((Ext.refl _))).cell 4
  have p5 := (B1.out.ext ((Ext.refl _))).cell 5
  have p6 := (B1.out.ext ((Ext.refl _))).cell 6
  have p7 := (B1.out.ext ((Ext.refl _))).cell 7
  have p8 := (B1.out.ext ((Ext.refl _))).cell 8
  have p9 := (B1.out.ext ((Ext.refl _))).cell 9
  have p10 := (B1.out.ext ((Ext.refl _))).cell 10
  have p11 := (B1.out.ext ((Ext.refl _))).cell 11
  have p12 := (B1.out.ext ((Ext.refl _))).cell 12
  have p13 := (B1.out.ext ((Ext.refl _))).cell 13
  have s0_ := (B2.out.ext ((Ext.refl _))).cell 0
  have s1_ := (B2.out.ext ((Ext.refl _))).cell 1
  have s2_ := (B2.out.ext ((Ext.refl _))).cell 2
  have s3_ := (B2.out.ext ((Ext.refl _))).cell 3
  have s4_ := (B2.out.ext ((Ext.refl _))).cell 4
  go_wp2_with fail
  refine (HB.out _ HX.out).mono ?_
  rintro e w1 ⟨rfl, e1⟩
  go_wp2
  go_ret
  exact ⟨rfl, Ext.trans HX.out e1⟩
/-- The fault of Choose. -/
def choF (L : List Int) (S : List (List Int)) (Q : List Int) (d0 s0 r0 f0 i0 k0 l0 t0 lo0 hi0 a0 x0 y0 z0 nx tm bu bf : Int) (LD : List (Int × Int)) : Int :=
  if filmF L S Q ≠ 0 then filmF L S Q else if playF (S.length : Int) d0 s0 r0 f0 i0 k0 l0 t0 lo0 hi0 a0 x0 y0 z0 ≠ 0 then playF (S.length : Int) d0 s0 r0 f0 i0 k0 l0 t0 lo0 hi0 a0 x0 y0 z0
  else if nx < 1 ∨ (L.length : Int) - 1 < nx ∨ tm < 0 ∨ 2000000000000 < tm ∨ bu < 0 ∨ 2000000000000 < bu then 1
  else if hauF LD ≠ 0 then hauF LD else if bf < 0 ∨ (S.length : Int) - 1 < bf then 1 else 0
theorem plrF_buf (hk : k0 = 3) (h : plrF d0 s0 r0 f0 i0 k0 l0 t0 lo0 hi0 a0 x0 y0 z0 = 0) : 0 ≤ lo0 ∧ lo0 < hi0 ∧ hi0 ≤ 1000000000 := by
  subst hk
  unfold plrF at h
  repeat' (split at h)
  all_goals omega
theorem ret_pairZ {a b c d : Int} (h : a = b) (h' : c = d) : Ending.returned (.tuple #[.int .i64 a, .int .i64 c]) = .returned (.tuple #[.int .i64 b, .int .i64 d]) := by rw [h, h']
theorem playF_zero {n : Int} (h : playF n d0 s0 r0 f0 i0 k0 l0 t0 lo0 hi0 a0 x0 y0 z0 = 0) : fstF n d0 s0 r0 f0 i0 k0 l0 t0 lo0 hi0 a0 x0 y0 z0 = 0 := by
  unfold playF at h
  by_cases h1 : fstF n d0 s0 r0 f0 i0 k0 l0 t0 lo0 hi0 a0 x0 y0 z0 ≠ 0
  · rw [if_pos h1] at h; exact absurd h h1
  · omega
set_option maxRecDepth 1000000 in
set_option maxHeartbeats 8000000 in
theorem keyChooseB_any (h : Shw w lA ln lc sA sn sc qA qn qc L S Q) (hLD : At w 2 e2 ldA ldn ldc LD) (hk : k0 = 3) :
    Calls Try.prog 9 #[shV lA ln lc sA sn sc qA qn qc, plV d0 s0 r0 f0 i0 k0 l0 t0 lo0 hi0 a0 x0 y0 z0, .agg #[.int .i64 nx, .int .i64 tm, .int .i64 bu, .slice ldA ldn ldc, .int .i64 bf]] w fun e w' => e = .returned (.tuple #[.int .i64 (if choF L S Q d0 s0 r0 f0 i0 k0 l0 t0 lo0 hi0 a0 x0 y0 z0 nx tm bu bf LD = 0 then bufC (ratesL L S) lo0 hi0 bu else 0), .int .i64 (choF L S Q d0 s0 r0 f0 i0 k0 l0 t0 lo0 hi0 a0 x0 y0 z0 nx tm bu bf LD)]) ∧ Ext w w' := by
  have HX : Hid (Ext w (((w.alloc (.cells #[.slice lA ln lc, .slice sA sn sc, .slice qA qn qc] 25)).alloc (.cells #[.int .i64 d0, .int .i64 s0, .int .i64 r0, .int .i64 f0, .int .i64 i0, .int .i64 k0, .int .i64 l0, .int .i64 t0, .int .i64 lo0, .int .i64 hi0, .int .i64 a0, .int .i64 x0, .int .i64 y0, .int .i64 z0] 29)).alloc (.cells #[.int .i64 nx, .int .i64 tm, .int .i64 bu, .slice ldA ldn ldc, .int .i64 bf] 32))) := hide (ext_alloc (ext_alloc (Ext.alloc _ _) _) _)
  have hb0 := ((Blk.new w 25 #[.slice lA ln lc, .slice sA sn sc, .slice qA qn qc]).alloc (.cells #[.int .i64 d0, .int .i64 s0, .int .i64 r0, .int .i64 f0, .int .i64 i0, .int .i64 k0, .int .i64 l0, .int .i64 t0, .int .i64 lo0, .int .i64 hi0, .int .i64 a0, .int .i64 x0, .int .i64 y0, .int .i64 z0] 29)).alloc (.cells #[.int .i64 nx, .int .i64 tm, .int .i64 bu, .slice ldA ldn ldc, .int .i64 bf] 32)
  have hb1 := (Blk.new (w.alloc (.cells #[.slice lA ln lc, .slice sA sn sc, .slice qA qn qc] 25)) 29 #[.int .i64 d0, .int .i64 s0, .int .i64 r0, .int .i64 f0, .int .i64 i0, .int .i64 k0, .int .i64 l0, .int .i64 t0, .int .i64 lo0, .int .i64 hi0, .int .i64 a0, .int .i64 x0, .int .i64 y0, .int .i64 z0]).alloc (.cells #[.int .i64 nx, .int .i64 tm, .int .i64 bu, .slice ldA ldn ldc, .int .i64 bf] 32)
  have hb2 := Blk.new ((w.alloc (.cells #[.slice lA ln lc, .slice sA sn sc, .slice qA qn qc] 25)).alloc (.cells #[.int .i64 d0, .int .i64 s0, .int .i64 r0, .int .i64 f0, .int .i64 i0, .int .i64 k0, .int .i64 l0, .int .i64 t0, .int .i64 lo0, .int .i64 hi0, .int .i64 a0, .int .i64 x0, .int .i64 y0, .int .i64 z0] 29)) 32 #[.int .i64 nx, .int .i64 tm, .int .i64 bu, .slice ldA ldn ldc, .int .i64 bf]
  simp only [World.size_alloc] at hb1 hb2
  have B0 := hide hb0
  have B1 := hide hb1
  have B2 := hide hb2
  clear hb0 hb1 hb2
  have HLn := hide h.longs.len
  have HSn := hide h.sizes.len
  have hbl := h.longs.bound
  have hbs := h.sizes.bound
  have HFI := hide (fun (W : World) (hW : Ext w W) => keyFilm_any (h.ext hW))
  have HPL := hide (fun (W : World) (hs : sn ≤ 1000) => playerFault_any (lA := lA) (ln := ln) (lc := lc) (sA := sA) (sn := sn) (sc := sc) (qA := qA) (qn := qn) (qc := qc) (d := d0) (s := s0) (r := r0) (f := f0) (i := i0) (k := k0) (l := l0) (t := t0) (lo := lo0) (hi := hi0) (a := a0) (x := x0) (y := y0) (z := z0) (w := W) hs)
  have HLF := hide (fun (W : World) (hW : Ext w W) => loadsFault_any (hLD.ext hW))
  have HOK := hide (fun (hz : filmF L S Q = 0) => filmF_ok hz)
  have HPZ := hide (fun (hz : playF (S.length : Int) d0 s0 r0 f0 i0 k0 l0 t0 lo0 hi0 a0 x0 y0 z0 = 0) => plrF_buf hk (fstF_zero (playF_zero hz)).1)
  have HCB := hide (fun (W : World) (hW : Ext w W) (ok : FilmOk L S Q) hlo hbu => chooseB_any (d0 := d0) (s0 := s0) (r0 := r0) (f0 := f0) (i0 := i0) (k0 := k0) (l0 := l0) (t0 := t0) (lo0 := lo0) (hi0 := hi0) (a0 := a0) (x0 := x0) (y0 := y0) (z0 := z0) (nx := nx) (tm := tm) (bu := bu) (bf := bf) (ldA := ldA) (ldn := ldn) (ldc := ldc) (h.ext hW) ok hk hlo hbu)
  clear h hLD hk
  obtain ⟨F, hF⟩ : ∃ F, F = choF L S Q d0 s0 r0 f0 i0 k0 l0 t0 lo0 hi0 a0 x0 y0 z0 nx tm bu bf LD := ⟨_, rfl⟩
  obtain ⟨V, hV⟩ : ∃ V, V = (if F = 0 then bufC (ratesL L S) lo0 hi0 bu else 0) := ⟨_, rfl⟩
  rw [← hF, ← hV]
  unfold choF at hF
  rw [HSn.out] at HPZ hF
  rw [HLn.out] at hF
  generalize filmF L S Q = q1 at *
  generalize playF (sn : Int) d0 s0 r0 f0 i0 k0 l0 t0 lo0 hi0 a0 x0 y0 z0 = q2 at *
  generalize hauF LD = q3 at *
  generalize bufC (ratesL L S) lo0 hi0 bu = bc at *
  have HV1 : Hid (F ≠ 0 → V = 0) := hide (fun hh => by rw [hV, if_neg hh])
  have HV2 : Hid (F = 0 → V = bc) := hide (fun hh => by rw [hV, if_pos hh])
  clear hV
  have HFC := hide hF
  clear hF
  go_enter Try.func9, Try.ntmps9
  have rr0 := (B0.out.ext ((Ext.refl _))).cell 0
  have rr1 := (B0.out.ext ((Ext.refl _))).cell 1
  have rr2 := (B0.out.ext ((Ext.refl _))).cell 2
  have p0 := (B1.out.ext ((Ext.refl _))).cell 0
  have p1 := (B1.out.ext ((Ext.refl _))).cell 1
  have p2 := (B1.out.ext ((Ext.refl _))).cell 2
  have p3 := (B1.out.ext ((Ext.refl _))).cell 3
  have p4 := (B1.out.ext ((Ext.refl _))).cell 4
  have p5 := (B1.out.ext ((Ext.refl _))).cell 5
  have p6 := (B1.out.ext ((Ext.refl _))).cell 6
  have p7 := (B1.out.ext ((Ext.refl _))).cell 7
  have p8 := (B1.out.ext ((Ext.refl _))).cell 8
  have p9 := (B1.out.ext ((Ext.refl _))).cell 9
  have p10 := (B1.out.ext ((Ext.refl _))).cell 10
  have p11 := (B1.out.ext ((Ext.refl _))).cell 11
  have p12 := (B1.out.ext ((Ext.refl _))).cell 12
  have p13 := (B1.out.ext ((Ext.refl _))).cell 13
  have s0_ := (B2.out.ext ((Ext.refl _))).cell 0
  have s1_ := (B2.out.ext ((Ext.refl _))).cell 1
  have s2_ := (B2.out.ext ((Ext.refl _))).cell 2
  have s3_ := (B2.out.ext ((Ext.refl _))).cell 3
  have s4_ := (B2.out.ext ((Ext.refl _))).cell 4
  go_wp2_with fail
  refine (HFI.out _ HX.out).mono ?_
  rintro e w1 ⟨rfl, e1'⟩
  clear rr0 rr1 rr2 p0 p1 p2 p3 p4 p5 p6 p7 p8 p9 p10 p11 p12 p13 s0_ s1_ s2_ s3_ s4_
  by_cases c1 : ¬ q1 = 0
  · have hFF : F = q1 := by rw [HFC.out, if_pos c1]
    have hVV := HV1.out (by rw [hFF]; exact c1)
    have e1 : (q1 != 0) = true := by simp [c1]
    clear HFC c1 HV1 HV2
    go_wp2
    go_ret2
    exact ⟨ret_pairZ hVV.symm hFF.symm, Ext.trans HX.out e1'⟩
  have c1 : q1 = 0 := by omega
  have OK := hide (HOK.out c1)
  have hsn : sn ≤ 1000 := by have := OK.out.s1; have := HSn.out; omega
  have hln : ln ≤ 200 := by have := OK.out.l1; have := HLn.out; omega
  have e1 : (q1 != 0) = false := by simp [c1]
  have rr0 := (B0.out.ext (e1')).cell 0
  have rr1 := (B0.out.ext (e1')).cell 1
  have rr2 := (B0.out.ext (e1')).cell 2
  have p0 := (B1.out.ext (e1')).cell 0
  have p1 := (B1.out.ext (e1')).cell 1
  have p2 := (B1.out.ext (e1')).cell 2
  have p3 := (B1.out.ext (e1')).cell 3
  have p4 := (B1.out.ext (e1')).cell 4
  have p5 := (B1.out.ext (e1')).cell 5
  have p6 := (B1.out.ext (e1')).cell 6
  have p7 := (B1.out.ext (e1')).cell 7
  have p8 := (B1.out.ext (e1')).cell 8
  have p9 := (B1.out.ext (e1')).cell 9
  have p10 := (B1.out.ext (e1')).cell 10
  have p11 := (B1.out.ext (e1')).cell 11
  have p12 := (B1.out.ext (e1')).cell 12
  have p13 := (B1.out.ext (e1')).cell 13
  have s0_ := (B2.out.ext (e1')).cell 0
  have s1_ := (B2.out.ext (e1')).cell 1
  have s2_ := (B2.out.ext (e1')).cell 2
  have s3_ := (B2.out.ext (e1')).cell 3
  have s4_ := (B2.out.ext (e1')).cell 4
  go_wp2_with fail
  refine (HPL.out _ hsn).mono ?_
  rintro e w2 ⟨rfl, e2'⟩
  clear rr0 rr1 rr2 p0 p1 p2 p3 p4 p5 p6 p7 p8 p9 p10 p11 p12 p13 s0_ s1_ s2_ s3_ s4_
  have E2 := hide (Ext.trans e1' e2')
  by_cases c2 : ¬ q2 = 0
  · have hFF : F = q2 := by rw [HFC.out, if_neg (by omega), if_pos c2]
    have hVV := HV1.out (by rw [hFF]; exact c2)
    have e2 : (q2 != 0) = true := by simp [c2]
    clear HFC c2 HV1 HV2
    go_wp2
    go_ret2
    exact ⟨ret_pairZ hVV.symm hFF.symm, Ext.trans HX.out E2.out⟩
  have c2 : q2 = 0 := by omega
  have HLO := HPZ.out c2
  have e2 : (q2 != 0) = false := by simp [c2]
  have hF : F = if nx < 1 ∨ (ln : Int) - 1 < nx ∨ tm < 0 ∨ 2000000000000 < tm ∨ bu < 0 ∨ 2000000000000 < bu then 1 else if q3 ≠ 0 then q3 else if bf < 0 ∨ (sn : Int) - 1 < bf then 1 else 0 := by rw [HFC.out, if_neg (by omega), if_neg (by omega)]
  have wl : IntKind.i64.wrap ((ln : Int) - 1) = (ln : Int) - 1 := by rw [IntKind.wrap_i64]; omega
  have ws' : IntKind.i64.wrap ((sn : Int) - 1) = (sn : Int) - 1 := by rw [IntKind.wrap_i64]; omega
  clear HFC c1 c2 e1' e2' HFI HPL HOK HPZ
  have rr0 := (B0.out.ext (E2.out)).cell 0
  have rr1 := (B0.out.ext (E2.out)).cell 1
  have rr2 := (B0.out.ext (E2.out)).cell 2
  have p0 := (B1.out.ext (E2.out)).cell 0
  have p1 := (B1.out.ext (E2.out)).cell 1
  have p2 := (B1.out.ext (E2.out)).cell 2
  have p3 := (B1.out.ext (E2.out)).cell 3
  have p4 := (B1.out.ext (E2.out)).cell 4
  have p5 := (B1.out.ext (E2.out)).cell 5
  have p6 := (B1.out.ext (E2.out)).cell 6
  have p7 := (B1.out.ext (E2.out)).cell 7
  have p8 := (B1.out.ext (E2.out)).cell 8
  have p9 := (B1.out.ext (E2.out)).cell 9
  have p10 := (B1.out.ext (E2.out)).cell 10
  have p11 := (B1.out.ext (E2.out)).cell 11
  have p12 := (B1.out.ext (E2.out)).cell 12
  have p13 := (B1.out.ext (E2.out)).cell 13
  have s0_ := (B2.out.ext (E2.out)).cell 0
  have s1_ := (B2.out.ext (E2.out)).cell 1
  have s2_ := (B2.out.ext (E2.out)).cell 2
  have s3_ := (B2.out.ext (E2.out)).cell 3
  have s4_ := (B2.out.ext (E2.out)).cell 4
  by_cases c3 : nx < 1 ∨ (ln : Int) - 1 < nx ∨ tm < 0 ∨ 2000000000000 < tm ∨ bu < 0 ∨ 2000000000000 < bu
  · rw [if_pos c3] at hF
    have hVV := HV1.out (by omega)
    clear HV1 HV2
    by_cases d1 : nx < 1 ∨ (ln : Int) - 1 < nx
    · clear c3
      go_wp2_with (first | ((go_at_call 23; with_reducible refine (out_no ?_ _).mono ?_); (focus omega); rintro e w' ⟨rfl, rfl⟩) | ((go_at_call 23; with_reducible refine (out_yes ?_ _).mono ?_); (focus omega); rintro e w' ⟨rfl, rfl⟩))
      go_ret2
      exact ⟨ret_pairZ hVV.symm hF.symm, Ext.trans HX.out E2.out⟩
    have d1' : 1 ≤ nx ∧ nx ≤ (ln : Int) - 1 := by omega
    by_cases d2 : tm < 0 ∨ 2000000000000 < tm
    · clear c3 d1
      go_wp2_with (first | ((go_at_call 23; with_reducible refine (out_no ?_ _).mono ?_); (focus omega); rintro e w' ⟨rfl, rfl⟩) | ((go_at_call 23; with_reducible refine (out_yes ?_ _).mono ?_); (focus omega); rintro e w' ⟨rfl, rfl⟩))
      go_ret2
      exact ⟨ret_pairZ hVV.symm hF.symm, Ext.trans HX.out E2.out⟩
    have d2' : 0 ≤ tm ∧ tm ≤ 2000000000000 := by omega
    have d3 : bu < 0 ∨ 2000000000000 < bu := by omega
    clear c3 d1 d2
    go_wp2_with (first | ((go_at_call 23; with_reducible refine (out_no ?_ _).mono ?_); (focus omega); rintro e w' ⟨rfl, rfl⟩) | ((go_at_call 23; with_reducible refine (out_yes ?_ _).mono ?_); (focus omega); rintro e w' ⟨rfl, rfl⟩))
    go_ret2
    exact ⟨ret_pairZ hVV.symm hF.symm, Ext.trans HX.out E2.out⟩
  rw [if_neg c3] at hF
  have d1' : 1 ≤ nx ∧ nx ≤ (ln : Int) - 1 := by omega
  have d2' : 0 ≤ tm ∧ tm ≤ 2000000000000 := by omega
  have d3' : 0 ≤ bu ∧ bu ≤ 2000000000000 := by omega
  have HF3 := hide hF
  clear c3 hF
  go_wp2_with (first | ((go_at_call 23; with_reducible refine (out_no ?_ _).mono ?_); (focus omega); rintro e w' ⟨rfl, rfl⟩) | ((go_at_call 23; with_reducible refine (out_yes ?_ _).mono ?_); (focus omega); rintro e w' ⟨rfl, rfl⟩))
  refine (HLF.out _ (Ext.trans HX.out E2.out)).mono ?_
  rintro e w3 ⟨rfl, e3'⟩
  clear rr0 rr1 rr2 p0 p1 p2 p3 p4 p5 p6 p7 p8 p9 p10 p11 p12 p13 s0_ s1_ s2_ s3_ s4_
  have E3 := hide (Ext.trans E2.out e3')
  clear e3' E2 HLF
  by_cases c4 : ¬ q3 = 0
  · have hFF : F = q3 := by rw [HF3.out, if_pos c4]
    have hVV := HV1.out (by rw [hFF]; exact c4)
    have e3 : (q3 != 0) = true := by simp [c4]
    clear HF3 c4 HV1 HV2
    go_wp2
    go_ret2
    exact ⟨ret_pairZ hVV.symm hFF.symm, Ext.trans HX.out E3.out⟩
  have c4 : q3 = 0 := by omega
  have e3 : (q3 != 0) = false := by simp [c4]
  have hF : F = if bf < 0 ∨ (sn : Int) - 1 < bf then 1 else 0 := by rw [HF3.out, if_neg (by omega)]
  clear HF3 c4
  have rr0 := (B0.out.ext (E3.out)).cell 0
  have rr1 := (B0.out.ext (E3.out)).cell 1
  have rr2 := (B0.out.ext (E3.out)).cell 2
  have p0 := (B1.out.ext (E3.out)).cell 0
  have p1 := (B1.out.ext (E3.out)).cell 1
  have p2 := (B1.out.ext (E3.out)).cell 2
  have p3 := (B1.out.ext (E3.out)).cell 3
  have p4 := (B1.out.ext (E3.out)).cell 4
  have p5 := (B1.out.ext (E3.out)).cell 5
  have p6 := (B1.out.ext (E3.out)).cell 6
  have p7 := (B1.out.ext (E3.out)).cell 7
  have p8 := (B1.out.ext (E3.out)).cell 8
  have p9 := (B1.out.ext (E3.out)).cell 9
  have p10 := (B1.out.ext (E3.out)).cell 10
  have p11 := (B1.out.ext (E3.out)).cell 11
  have p12 := (B1.out.ext (E3.out)).cell 12
  have p13 := (B1.out.ext (E3.out)).cell 13
  have s0_ := (B2.out.ext (E3.out)).cell 0
  have s1_ := (B2.out.ext (E3.out)).cell 1
  have s2_ := (B2.out.ext (E3.out)).cell 2
  have s3_ := (B2.out.ext (E3.out)).cell 3
  have s4_ := (B2.out.ext (E3.out)).cell 4
  by_cases c5 : bf < 0 ∨ (sn : Int) - 1 < bf
  · rw [if_pos c5] at hF
    have hVV := HV1.out (by omega)
    clear HV1 HV2
    go_wp2_with (first | ((go_at_call 23; with_reducible refine (out_no ?_ _).mono ?_); (focus omega); rintro e w' ⟨rfl, rfl⟩) | ((go_at_call 23; with_reducible refine (out_yes ?_ _).mono ?_); (focus omega); rintro e w' ⟨rfl, rfl⟩))
    go_ret2
    exact ⟨ret_pairZ hVV.symm hF.symm, Ext.trans HX.out E3.out⟩
  rw [if_neg c5] at hF
  have hVV := HV2.out hF
  have d5 : 0 ≤ bf ∧ bf ≤ (sn : Int) - 1 := by omega
  have HCC := hide (fun (W : World) (hW : Ext w W) => HCB.out W hW OK.out HLO d3')
  clear HV1 HV2 c5 HCB
  go_wp2_with (first | ((go_at_call 23; with_reducible refine (out_no ?_ _).mono ?_); (focus omega); rintro e w' ⟨rfl, rfl⟩) | ((go_at_call 23; with_reducible refine (out_yes ?_ _).mono ?_); (focus omega); rintro e w' ⟨rfl, rfl⟩))
  refine (HCC.out _ (Ext.trans HX.out E3.out)).mono ?_
  rintro e w4 ⟨rfl, e4'⟩
  go_wp2
  go_ret2
  exact ⟨ret_pairZ hVV.symm hF.symm, Ext.trans HX.out (Ext.trans E3.out e4')⟩
end
end Go.Proofs.Ytlkddilgaenmaaa

