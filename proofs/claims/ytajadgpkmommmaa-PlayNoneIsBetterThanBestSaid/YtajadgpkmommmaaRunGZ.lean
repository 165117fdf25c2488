/- Walk: Run of the program: it follows its player with some choices. Conditions as stated. -/
import Derived.Test.YtajadgpkmommmaaFolE
import Derived.Test.YtajadgpkmommmaaChoSZ
namespace Go.Proofs.Ytajadgpkmommmaa
open Go.RowKit
section
variable {lA : Option Addr} {ln lc : Nat} {sA : Option Addr} {sn sc : Nat} {qA : Option Addr} {qn qc : Nat} {L : List Int} {S : List (List Int)} {Q : List Int} {d0 s0 r0 f0 i0 k0 l0 t0 lo0 hi0 a0 x0 y0 z0 : Int} {nx tm bu bf : Int} {ldA : Option Addr} {ldn ldc : Nat} {w : World} {T LD : List (Int × Int)} {C : List Int}
/-- A run on a trace goes well, whatever is chosen. -/
theorem run_traceC (hF : filmF L S Q = 0) (hT : trcF T = 0) (hd : 0 ≤ d0 ∧ d0 ≤ 100000) (hC : okC S.length C) : RunOk f0 s0 r0 L S (gvF C) (trF T d0) 1000000000000 1000100000 := by
  have ok := filmF_ok hF
  refine ⟨fun i hi => ⟨by have := (ok.lr i hi).1; omega, (ok.lr i hi).2⟩, ok.l1, by omega, by omega, fun n hn h1 h2 h3 => ?_⟩
  have hl := ok.l1
  have hr := hC n
  have e1 : rN f0 s0 r0 L S (gvF C) (trF T d0) n = C.getD n 0 := rfl
  have hz := ok.sr (C.getD n 0).toNat (by omega) n hn
  have hb := ask_bd (full := f0) (long := L.getD n 0) h1
  have hX := (ok.lr n hn)
  have e2 : asN f0 s0 r0 L S (gvF C) (trF T d0) n = askT f0 (L.getD n 0) (folF f0 s0 r0 L S (gvF C) (trF T d0) n).w := rfl
  have e3 : tN f0 s0 r0 L S (gvF C) (trF T d0) n = endsP T (askT f0 (L.getD n 0) (folF f0 s0 r0 L S (gvF C) (trF T d0) n).w + d0) ((S.getD (C.getD n 0).toNat []).getD n 0) := rfl
  have hn2 : (n : Int) * 1000100000 ≤ 200 * 1000100000 := by omega
  have he := ends_bd hT (f := askT f0 (L.getD n 0) (folF f0 s0 r0 L S (gvF C) (trF T d0) n).w + d0) (b := (S.getD (C.getD n 0).toNat []).getD n 0) ⟨by omega, by omega⟩ ⟨by omega, by omega⟩
  rw [e1, e2, e3]
  refine ⟨⟨by omega, by omega⟩, by omega, by omega⟩
theorem loads_okR (hF : filmF L S Q = 0) (hT : trcF T = 0) (hd : 0 ≤ d0 ∧ d0 ≤ 100000) (hC : okC S.length C) : ∀ n, n ≤ L.length → ∀ j, j < (folF f0 s0 r0 L S (gvF C) (trF T d0) n).loads.length → okH ((folF f0 s0 r0 L S (gvF C) (trF T d0) n).loads.getD j (0, 0)) = true
  | 0, _, j, hj => absurd hj (Nat.not_lt_zero j)
  | n + 1, hn, j, hj => by
    have hR := run_traceC (f0 := f0) (s0 := s0) (r0 := r0) hF hT hd hC
    have ok := filmF_ok hF
    obtain ⟨h1, h2, h3, h4⟩ := hR.all n (by omega)
    have hl := ok.l1
    have hn2 : (n : Int) * 1000100000 ≤ 200 * 1000100000 := by omega
    obtain ⟨_, c1, c2⟩ := hR.comes n (by omega) h1 h2 (by omega)
    have hab := ask_bd (full := f0) (long := L.getD n 0) h1
    have e2 : asN f0 s0 r0 L S (gvF C) (trF T d0) n = askT f0 (L.getD n 0) (folF f0 s0 r0 L S (gvF C) (trF T d0) n).w := rfl
    rw [← e2] at hab
    have hz : 0 ≤ zN f0 s0 r0 L S (gvF C) (trF T d0) n ∧ zN f0 s0 r0 L S (gvF C) (trF T d0) n ≤ 1000000000 := size_any ok _ _
    have e : (folF f0 s0 r0 L S (gvF C) (trF T d0) (n + 1)).loads = (folF f0 s0 r0 L S (gvF C) (trF T d0) n).loads ++ [(zN f0 s0 r0 L S (gvF C) (trF T d0) n, tN f0 s0 r0 L S (gvF C) (trF T d0) n - asN f0 s0 r0 L S (gvF C) (trF T d0) n)] := rfl
    rw [e] at hj ⊢
    rw [List.length_append, List.length_singleton] at hj
    by_cases hj2 : j < (folF f0 s0 r0 L S (gvF C) (trF T d0) n).loads.length
    · have := loads_okR hF hT hd hC n (by omega) j hj2
      simp only [List.getD_eq_getElem?_getD] at this ⊢
      rw [List.getElem?_append_left hj2]
      exact this
    · have hje : j = (folF f0 s0 r0 L S (gvF C) (trF T d0) n).loads.length := by omega
      simp only [List.getD_eq_getElem?_getD]
      rw [List.getElem?_append_right (by omega), hje]
      simp only [Nat.sub_self, List.getElem?_cons_zero, Option.getD_some]
      unfold okH
      rw [decide_eq_true_iff]
      exact ⟨hz.1, hz.2, by simp only; omega, by simp only; omega⟩
theorem before_ok (hC : okC S.length C) (h0 : 0 < S.length) : ∀ n, 0 ≤ (folF f0 s0 r0 L S (gvF C) (trF T d0) n).before ∧ (folF f0 s0 r0 L S (gvF C) (trF T d0) n).before < S.length
  | 0 => ⟨Int.le_refl _, by show (0 : Int) < _; omega⟩
  | n + 1 => hC n
theorem plrF_zero14 (h : plrF d0 s0 r0 f0 i0 k0 l0 t0 lo0 hi0 a0 x0 y0 z0 = 0) : 0 ≤ i0 := by
  unfold plrF at h
  split at h
  · omega
  · omega
set_option maxRecDepth 1000000 in
set_option maxHeartbeats 8000000 in
theorem pick_some {g1 g2 n b : Nat} {W : World} (h : Shw W lA ln lc sA sn sc qA qn qc L S Q) (ok : FilmOk L S Q) (hP : plrF d0 s0 r0 f0 i0 k0 l0 t0 lo0 hi0 a0 x0 y0 z0 = 0) (hi : i0 < (sn : Int)) (hn : n < ln) (hb : b < sn) (hbu : 0 ≤ bu ∧ bu ≤ 2000000000000) (hLD : At W 2 e2 ldA ldn ldc LD) (hldn : ldn ≤ 200) (hok : ∀ j, j < LD.length → okH (LD.getD j (0, 0)) = true)
    (b1 : Blk W g1 30 #[.int .i64 d0, .int .i64 s0, .int .i64 r0, .int .i64 f0, .int .i64 i0, .int .i64 k0, .int .i64 l0, .int .i64 t0, .int .i64 lo0, .int .i64 hi0, .int .i64 a0, .int .i64 x0, .int .i64 y0, .int .i64 z0]) (b2 : Blk W g2 25 #[.slice lA ln lc, .slice sA sn sc, .slice qA qn qc]) :
    Calls Try.prog 20 #[.agg #[.int .i64 (n : Int), .int .i64 tm, .int .i64 bu, .slice ldA ldn ldc, .int .i64 (b : Int)], .pointer (some ⟨g1, 0, none⟩), .pointer (some ⟨g2, 0, none⟩)] W fun e w' => (∃ r : Nat, e = .returned (.int .i64 (r : Int)) ∧ r < sn ∧ ((n = 0 → (r : Int) = i0) ∧ (0 < n → k0 = 2 → (r : Int) = rateC (ratesL L S) (sumB (LD.drop (ldn - l0.toNat))) (sumG (LD.drop (ldn - l0.toNat))) t0))) ∧ Ext W w' := by
  have hi1 := plrF_zero14 hP
  have HC := hide (fun (V : World) (hV : Ext W V) => choose_some (d0 := d0) (s0 := s0) (r0 := r0) (f0 := f0) (i0 := i0) (k0 := k0) (l0 := l0) (t0 := t0) (lo0 := lo0) (hi0 := hi0) (a0 := a0) (x0 := x0) (y0 := y0) (z0 := z0) (n := n) (b := b) (tm := tm) (bu := bu) (h.ext hV) ok hP hi hn hb hbu (hLD.ext hV) hldn hok)
  obtain ⟨r, hr⟩ : ∃ r : Nat, i0 = (r : Int) := ⟨i0.toNat, by omega⟩
  have HR := hide hr
  have hrs : r < sn := by omega
  have EA := Ext.alloc W (.cells #[.int .i64 (n : Int), .int .i64 tm, .int .i64 bu, .slice ldA ldn ldc, .int .i64 (b : Int)] 56)
  have B1 := b1.ext EA
  have B2 := b2.ext EA
  have BS := Blk.new W 56 #[.int .i64 (n : Int), .int .i64 tm, .int .i64 bu, .slice ldA ldn ldc, .int .i64 (b : Int)]
  have HE := hide EA
  by_cases h0 : n = 0
  · subst h0
    have q4 : (W.alloc (.cells #[.int .i64 0, .int .i64 tm, .int .i64 bu, .slice ldA ldn ldc, .int .i64 (b : Int)] 56)).cell? ⟨g1, 4, none⟩ = some (.int .i64 i0) := (b1.ext (Ext.alloc _ _)).cell 4
    have e0 : (((0 : Nat) : Int) == 0) = true := rfl
    clear hr hP h ok hi hn hb hbu hLD hldn hok hi1 B2 b1 b2 EA
    go_enter Try.func20, Try.ntmps20
    go_wp2
    go_ret
    exact ⟨⟨r, ret_int HR.out, hrs, fun _ => HR.out.symm, fun h => absurd h (Nat.lt_irrefl 0)⟩, HE.out⟩
  · have e0 : ((n : Int) == 0) = false := by rw [beq_eq_false_iff_ne]; omega
    have hn0 := hide h0
    have u0' := B2.cell 0
    have u1' := B2.cell 1
    have u2' := B2.cell 2
    have v0' := B1.cell 0
    have v1' := B1.cell 1
    have v2' := B1.cell 2
    have v3' := B1.cell 3
    have v4' := B1.cell 4
    have v5' := B1.cell 5
    have v6' := B1.cell 6
    have v7' := B1.cell 7
    have v8' := B1.cell 8
    have v9' := B1.cell 9
    have v10' := B1.cell 10
    have v11' := B1.cell 11
    have v12' := B1.cell 12
    have v13' := B1.cell 13
    have x0' := BS.cell 0
    have x1' := BS.cell 1
    have x2' := BS.cell 2
    have x3' := BS.cell 3
    have x4' := BS.cell 4
    clear hr hP h ok hi hn hb hbu hLD hldn hok hi1 b1 b2 EA h0 B1 B2 BS
    go_enter Try.func20, Try.ntmps20
    go_wp2_with fail
    refine (HC.out _ HE.out).mono ?_
    rintro e w1 ⟨⟨q, rfl, hq, hk⟩, e1⟩
    go_wp2
    go_ret
    exact ⟨⟨q, rfl, hq, fun h => absurd h hn0.out, fun _ => hk⟩, Ext.trans HE.out e1⟩
theorem follow_run {W : World} {g1 g2 q2 q3 : Nat} {tA : Option Addr} {tn tc : Nat} (hF : filmF L S Q = 0) (hT0 : trcF T = 0) (hP : plrF d0 s0 r0 f0 i0 k0 l0 t0 lo0 hi0 a0 x0 y0 z0 = 0) (hi : i0 < (S.length : Int))
    (h : Shw W lA ln lc sA sn sc qA qn qc L S Q) (hT : At W 2 e2 tA tn tc T) (p1 : Blk W g1 30 #[.int .i64 d0, .int .i64 s0, .int .i64 r0, .int .i64 f0, .int .i64 i0, .int .i64 k0, .int .i64 l0, .int .i64 t0, .int .i64 lo0, .int .i64 hi0, .int .i64 a0, .int .i64 x0, .int .i64 y0, .int .i64 z0]) (p2 : Blk W g2 25 #[.slice lA ln lc, .slice sA sn sc, .slice qA qn qc]) (b2 : Blk W q2 26 #[.slice tA tn tc]) (b3 : Blk W q3 30 #[.int .i64 d0, .int .i64 s0, .int .i64 r0, .int .i64 f0, .int .i64 i0, .int .i64 k0, .int .i64 l0, .int .i64 t0, .int .i64 lo0, .int .i64 hi0, .int .i64 a0, .int .i64 x0, .int .i64 y0, .int .i64 z0]) :
    Calls Try.prog 19 #[shV lA ln lc sA sn sc qA qn qc, .agg #[.int .i64 d0, .int .i64 s0, .int .i64 r0, .int .i64 f0, .int .i64 i0, .int .i64 k0, .int .i64 l0, .int .i64 t0, .int .i64 lo0, .int .i64 hi0, .int .i64 a0, .int .i64 x0, .int .i64 y0, .int .i64 z0], .func (.func 20) #[] #[.pointer (some ⟨g1, 0, none⟩), .pointer (some ⟨g2, 0, none⟩)], .func (.func 45) #[] #[.pointer (some ⟨q2, 0, none⟩), .pointer (some ⟨q3, 0, none⟩)]] W
      fun e w' => ∃ C, C.length = L.length ∧ okC S.length C ∧ (∀ n, n < L.length → (fun n F r => (n = 0 → r = i0) ∧ (0 < n → k0 = 2 → r = rateC (ratesL L S) (sumB (F.loads.drop (F.loads.length - l0.toNat))) (sumG (F.loads.drop (F.loads.length - l0.toNat))) t0)) n (folF f0 s0 r0 L S (gvF C) (trF T d0) n) (C.getD n 0)) ∧ FolGives W L.length (folF f0 s0 r0 L S (gvF C) (trF T d0) L.length) e w' := by
  have ok := filmF_ok hF
  have hd := (plrF_zero hP).1
  have hf := (plrF_zero hP).2
  have hsl := h.sizes.len
  have hll := h.longs.len
  have hR := fun C hC => run_traceC (f0 := f0) (s0 := s0) (r0 := r0) (C := C) hF hT0 hd hC
  refine follow_some (M := 1000000000000) (D := 1000100000) (GG := (fun n F r => (n = 0 → r = i0) ∧ (0 < n → k0 = 2 → r = rateC (ratesL L S) (sumB (F.loads.drop (F.loads.length - l0.toNat))) (sumG (F.loads.drop (F.loads.length - l0.toNat))) t0))) (fun _ _ => rfl) (fun _ _ => rfl) h ok.sl (size_any ok) ok.s0 ok.l1 hR (by omega) ⟨by omega, by omega⟩ ?_ ?_
  · intro C hC W' hW n hn ldA ldn ldc hLD
    obtain ⟨h1, h2, h3, h4⟩ := (hR C hC).all n (by omega)
    have hb := ask_bd (full := f0) (long := L.getD n 0) h1
    have hl := ok.l1
    have hn2 : (n : Int) * 1000100000 ≤ 200 * 1000100000 := by omega
    have e2 : asN f0 s0 r0 L S (gvF C) (trF T d0) n = askT f0 (L.getD n 0) (folF f0 s0 r0 L S (gvF C) (trF T d0) n).w := rfl
    have hbf := before_ok (C := C) (f0 := f0) (s0 := s0) (r0 := r0) (T := T) (L := L) (d0 := d0) hC ok.s0 n
    have hlen := (fol_len f0 s0 r0 L S (gvF C) (trF T d0) n).2.2.2.1
    have hbu : 0 ≤ bufT (folF f0 s0 r0 L S (gvF C) (trF T d0) n).w (asN f0 s0 r0 L S (gvF C) (trF T d0) n) ∧ bufT (folF f0 s0 r0 L S (gvF C) (trF T d0) n).w (asN f0 s0 r0 L S (gvF C) (trF T d0) n) ≤ 2000000000000 := by
      rw [e2]
      unfold bufT
      have := h1.1
      split <;> omega
    have hok := loads_okR (f0 := f0) (s0 := s0) (r0 := r0) (d0 := d0) (C := C) hF hT0 hd hC n (by omega)
    have hldn : ldn = n := by rw [← hLD.len, hlen]
    generalize (folF f0 s0 r0 L S (gvF C) (trF T d0) n).before = bf at *
    obtain ⟨b, rfl⟩ : ∃ b : Nat, bf = (b : Int) := ⟨bf.toNat, by omega⟩
    have hp := pick_some (d0 := d0) (s0 := s0) (r0 := r0) (f0 := f0) (i0 := i0) (k0 := k0) (l0 := l0) (t0 := t0) (lo0 := lo0) (hi0 := hi0) (a0 := a0) (x0 := x0) (y0 := y0) (z0 := z0) (n := n) (b := b) (tm := asN f0 s0 r0 L S (gvF C) (trF T d0) n) (h.ext hW) ok hP (by omega) (by omega) (by omega) hbu hLD (by omega) hok (p1.ext hW) (p2.ext hW)
    refine hp.mono fun e w' hh => ?_
    obtain ⟨⟨r, e1, e2', e3⟩, e4⟩ := hh
    refine ⟨⟨r, e1, by omega, ?_⟩, e4⟩
    rw [← hLD.len] at e3
    exact e3
  · intro C hC W' hW n hn
    obtain ⟨h1, h2, h3, _⟩ := (hR C hC).all n (by omega)
    have hb := ask_bd (full := f0) (long := L.getD n 0) h1
    have hl := ok.l1
    have e2 : asN f0 s0 r0 L S (gvF C) (trF T d0) n = askT f0 (L.getD n 0) (folF f0 s0 r0 L S (gvF C) (trF T d0) n).w := rfl
    have hz : 0 ≤ zN f0 s0 r0 L S (gvF C) (trF T d0) n ∧ zN f0 s0 r0 L S (gvF C) (trF T d0) n ≤ 1000000000 := size_any ok _ _
    rw [← e2] at hb
    have hn2 : (n : Int) * 1000100000 ≤ 200 * 1000100000 := by omega
    exact onTraceC_any (hW.cell (b2.cell 0)) (hW.cell (b3.cell 0)) (hT.ext hW) hT0 ⟨by omega, by omega⟩ hd ⟨by omega, by omega⟩ hz
end
end Go.Proofs.Ytajadgpkmommmaa
namespace Go.Proofs.Ytajadgpkmommmaa
open Go.RowKit
section
variable {lA : Option Addr} {ln lc : Nat} {sA : Option Addr} {sn sc : Nat} {qA : Option Addr} {qn qc : Nat} {L : List Int} {S : List (List Int)} {Q : List Int} {d0 s0 r0 f0 i0 k0 l0 t0 lo0 hi0 a0 x0 y0 z0 : Int} {nx tm bu bf : Int} {ldA : Option Addr} {ldn ldc : Nat} {w : World} {T : List (Int × Int)}
theorem runF_zero2 (h : runF L S Q T d0 s0 r0 f0 i0 k0 l0 t0 lo0 hi0 a0 x0 y0 z0 = 0) : plrF d0 s0 r0 f0 i0 k0 l0 t0 lo0 hi0 a0 x0 y0 z0 = 0 ∧ i0 < (S.length : Int) := by
  unfold runF at h
  by_cases h1 : firstNZ [filmF L S Q, trcF T] = 0
  · rw [if_neg (by omega)] at h
    unfold playF at h
    by_cases h2 : fstF (S.length : Int) d0 s0 r0 f0 i0 k0 l0 t0 lo0 hi0 a0 x0 y0 z0 = 0
    · exact fstF_zero h2
    · rw [if_pos h2] at h; exact absurd h h2
  · rw [if_pos h1] at h; exact absurd h h1
/- What Run gives. -/
set_option linter.unusedVariables false in
def RunGives (w : World) (F : Int) (L : List Int) (S : List (List Int)) (T : List (Int × Int)) (d0 s0 r0 f0 i0 k0 l0 t0 lo0 hi0 a0 x0 y0 z0 : Int) (e : Ending) (w' : World) : Prop :=
  Ext w w' ∧ (F ≠ 0 → e = .returned (.tuple #[zS, .int .i64 F])) ∧ (F = 0 → ∃ (C : List Int) (v : Value), (C.length = L.length ∧ okC S.length C ∧ ∀ n, n < L.length → (fun n F r => (n = 0 → r = i0) ∧ (0 < n → k0 = 2 → r = rateC (ratesL L S) (sumB (F.loads.drop (F.loads.length - l0.toNat))) (sumG (F.loads.drop (F.loads.length - l0.toNat))) t0)) n (folF f0 s0 r0 L S (gvF C) (trF T d0) n) (C.getD n 0)) ∧ e = .returned (.tuple #[v, .int .i64 0]) ∧ SesAt w' w.heap.size v (folF f0 s0 r0 L S (gvF C) (trF T d0) L.length).ch (folF f0 s0 r0 L S (gvF C) (trF T d0) L.length).asd (folF f0 s0 r0 L S (gvF C) (trF T d0) L.length).arr (folF f0 s0 r0 L S (gvF C) (trF T d0) L.length).w.beg (folF f0 s0 r0 L S (gvF C) (trF T d0) L.length).w.stalls ((folF f0 s0 r0 L S (gvF C) (trF T d0) L.length).w.at_ + (folF f0 s0 r0 L S (gvF C) (trF T d0) L.length).w.buf) ∧ ((folF f0 s0 r0 L S (gvF C) (trF T d0) L.length).ch.length = L.length ∧ (folF f0 s0 r0 L S (gvF C) (trF T d0) L.length).asd.length = L.length ∧ (folF f0 s0 r0 L S (gvF C) (trF T d0) L.length).arr.length = L.length ∧ (folF f0 s0 r0 L S (gvF C) (trF T d0) L.length).w.stalls.length ≤ L.length))

set_option maxRecDepth 1000000 in
set_option maxHeartbeats 16000000 in
theorem keyRun_any {tA : Option Addr} {tn tc : Nat} (h : Shw w lA ln lc sA sn sc qA qn qc L S Q) (hT : At w 2 e2 tA tn tc T) :
    Calls Try.prog 7 #[shV lA ln lc sA sn sc qA qn qc, .slice tA tn tc, plV d0 s0 r0 f0 i0 k0 l0 t0 lo0 hi0 a0 x0 y0 z0] w (RunGives w (runF L S Q T d0 s0 r0 f0 i0 k0 l0 t0 lo0 hi0 a0 x0 y0 z0) L S T d0 s0 r0 f0 i0 k0 l0 t0 lo0 hi0 a0 x0 y0 z0) := by
  have HR := hide (fun (W : World) (hW : Ext w W) => runFault_any (d := d0) (s := s0) (r := r0) (f := f0) (i := i0) (k := k0) (l := l0) (t := t0) (lo := lo0) (hi := hi0) (a := a0) (x := x0) (y := y0) (z := z0) (h.ext hW) (hT.ext hW))
  have hLn := h.longs.len
  generalize hu : runF L S Q T d0 s0 r0 f0 i0 k0 l0 t0 lo0 hi0 a0 x0 y0 z0 = u at *
  have HZ : Hid (u = 0 → (filmF L S Q = 0 ∧ trcF T = 0) ∧ plrF d0 s0 r0 f0 i0 k0 l0 t0 lo0 hi0 a0 x0 y0 z0 = 0 ∧ i0 < (S.length : Int)) := hide (fun h1 => ⟨⟨(runF_zero (hu.trans h1)).1, (runF_zero (hu.trans h1)).2.1⟩, runF_zero2 (hu.trans h1)⟩)
  clear hu
  have HH := hide h
  have HT := hide hT
  clear h hT
  go_enter Try.func7, Try.ntmps7
  go_wp2_with fail
  refine (HR.out _ (by repeat' (first | (with_reducible exact Below.refl _ _) | (with_reducible assumption) | (with_reducible refine below_drewN ?_ _) | (with_reducible refine Below.drew ?_) | (with_reducible refine ext_alloc ?_ _) | (with_reducible refine Below.setCell ?_ ?_ _) | go_size))).mono ?_
  rintro e w1 ⟨rfl, e1⟩
  have E1 : Hid (Ext w w1) := hide (Ext.trans (ext_alloc (ext_alloc (Ext.alloc _ _) _) _) e1)
  have B0 := hide (((Blk.new w 25 #[.slice lA ln lc, .slice sA sn sc, .slice qA qn qc]).alloc (.cells #[.int .i64 d0, .int .i64 s0, .int .i64 r0, .int .i64 f0, .int .i64 i0, .int .i64 k0, .int .i64 l0, .int .i64 t0, .int .i64 lo0, .int .i64 hi0, .int .i64 a0, .int .i64 x0, .int .i64 y0, .int .i64 z0] 30)).alloc (.cells #[.slice none 0 0, .slice none 0 0, .slice none 0 0, .int .i64 0, .slice none 0 0, .int .i64 0] 33) |>.ext e1)
  have b1 := (Blk.new (w.alloc (.cells #[.slice lA ln lc, .slice sA sn sc, .slice qA qn qc] 25)) 30 #[.int .i64 d0, .int .i64 s0, .int .i64 r0, .int .i64 f0, .int .i64 i0, .int .i64 k0, .int .i64 l0, .int .i64 t0, .int .i64 lo0, .int .i64 hi0, .int .i64 a0, .int .i64 x0, .int .i64 y0, .int .i64 z0]).alloc (.cells #[.slice none 0 0, .slice none 0 0, .slice none 0 0, .int .i64 0, .slice none 0 0, .int .i64 0] 33) |>.ext e1
  have b2 := (Blk.new ((w.alloc (.cells #[.slice lA ln lc, .slice sA sn sc, .slice qA qn qc] 25)).alloc (.cells #[.int .i64 d0, .int .i64 s0, .int .i64 r0, .int .i64 f0, .int .i64 i0, .int .i64 k0, .int .i64 l0, .int .i64 t0, .int .i64 lo0, .int .i64 hi0, .int .i64 a0, .int .i64 x0, .int .i64 y0, .int .i64 z0] 30)) 33 #[.slice none 0 0, .slice none 0 0, .slice none 0 0, .int .i64 0, .slice none 0 0, .int .i64 0]).ext e1
  simp only [World.size_alloc] at b1 b2
  have B1 := hide b1
  have B2 := hide b2
  clear b1 b2 e1
  have s0' := B2.out.cell 0
  have s1' := B2.out.cell 1
  have s2' := B2.out.cell 2
  have s3' := B2.out.cell 3
  have s4' := B2.out.cell 4
  have s5' := B2.out.cell 5
  have t0' := B2.out.frozen 0
  have t1' := B2.out.frozen 1
  have t2' := B2.out.frozen 2
  have t3' := B2.out.frozen 3
  have t4' := B2.out.frozen 4
  have t5' := B2.out.frozen 5
  by_cases hu : u = 0
  rotate_left
  · have i1 : (u != 0) = true := by simp [hu]
    have hu' := hide hu
    clear hu HR
    go_wp2_with fail
    refine gen_bod fun W9 h9 => ?_
    have S9 : Blk W9 (w.heap.size + 1 + 1) 33 #[.slice none 0 0, .slice none 0 0, .slice none 0 0, .int .i64 0, .slice none 0 0, .int .i64 0] := by rw [h9]; exact (((((B2.out.set_ 0 _).set_ 1 _).set_ 2 _).set_ 3 _).set_ 4 _).set_ 5 _
    have T9 : Tw w1 W9 (w.heap.size + 1 + 1) none := by rw [h9]; (repeat' (first | (with_reducible exact Tw.refl _ _ _) | (with_reducible refine Tw.trans ?_ (Tw.set_ _ _ _ _ _))))
    clear h9
    have k0' := S9.cell 0
    have k1' := S9.cell 1
    have k2' := S9.cell 2
    have k3' := S9.cell 3
    have k4' := S9.cell 4
    have k5' := S9.cell 5
    have X9 := Below.trans E1.out (T9.below E1.out.size (by omega) (fun b hb => by cases hb))
    refine bodyPost_ret (v := .tuple #[zS, .int .i64 u]) (by simp [results, Try.results7, go_sem, k0', k1', k2', k3', k4', k5']) rfl ⟨X9, fun _ => rfl, fun h => absurd h hu'.out⟩
  have i1 : (u != 0) = false := by simp [hu]
  have hu' := hide hu
  obtain ⟨⟨z1, z2⟩, z3, z4⟩ := HZ.out hu
  have HFO := hide (fun (W : World) (g1 g2 q2 q3 : Nat) (hW : Ext w W) (p1 : Blk W g1 30 #[.int .i64 d0, .int .i64 s0, .int .i64 r0, .int .i64 f0, .int .i64 i0, .int .i64 k0, .int .i64 l0, .int .i64 t0, .int .i64 lo0, .int .i64 hi0, .int .i64 a0, .int .i64 x0, .int .i64 y0, .int .i64 z0]) (p2 : Blk W g2 25 #[.slice lA ln lc, .slice sA sn sc, .slice qA qn qc]) (b2 : Blk W q2 26 #[.slice tA tn tc]) (b3 : Blk W q3 30 #[.int .i64 d0, .int .i64 s0, .int .i64 r0, .int .i64 f0, .int .i64 i0, .int .i64 k0, .int .i64 l0, .int .i64 t0, .int .i64 lo0, .int .i64 hi0, .int .i64 a0, .int .i64 x0, .int .i64 y0, .int .i64 z0]) => follow_run (d0 := d0) (s0 := s0) (r0 := r0) (f0 := f0) (i0 := i0) (k0 := k0) (l0 := l0) (t0 := t0) (lo0 := lo0) (hi0 := hi0) (a0 := a0) (x0 := x0) (y0 := y0) (z0 := z0) z1 z2 z3 z4 (HH.out.ext hW) (HT.out.ext hW) p1 p2 b2 b3)
  clear HR HZ z1 z2 z3 z4
  go_wp2_with fail
  have hn0 : w.heap.size ≠ w.heap.size + 1 + 1 := by omega
  have hn1 : w.heap.size + 1 ≠ w.heap.size + 1 + 1 := by omega
  have g0 : w1.cell? ⟨w.heap.size, 0, none⟩ = some (.slice lA ln lc) := B0.out.cell 0
  have g1 : w1.cell? ⟨w.heap.size, 1, none⟩ = some (.slice sA sn sc) := B0.out.cell 1
  have g2 : w1.cell? ⟨w.heap.size, 2, none⟩ = some (.slice qA qn qc) := B0.out.cell 2
  have g3 : w1.cell? ⟨w.heap.size + 1, 0, none⟩ = some (.int .i64 d0) := B1.out.cell 0
  have g4 : w1.cell? ⟨w.heap.size + 1, 1, none⟩ = some (.int .i64 s0) := B1.out.cell 1
  have g5 : w1.cell? ⟨w.heap.size + 1, 2, none⟩ = some (.int .i64 r0) := B1.out.cell 2
  have g6 : w1.cell? ⟨w.heap.size + 1, 3, none⟩ = some (.int .i64 f0) := B1.out.cell 3
  have g7 : w1.cell? ⟨w.heap.size + 1, 4, none⟩ = some (.int .i64 i0) := B1.out.cell 4
  have g8 : w1.cell? ⟨w.heap.size + 1, 5, none⟩ = some (.int .i64 k0) := B1.out.cell 5
  have g9 : w1.cell? ⟨w.heap.size + 1, 6, none⟩ = some (.int .i64 l0) := B1.out.cell 6
  have g10 : w1.cell? ⟨w.heap.size + 1, 7, none⟩ = some (.int .i64 t0) := B1.out.cell 7
  have g11 : w1.cell? ⟨w.heap.size + 1, 8, none⟩ = some (.int .i64 lo0) := B1.out.cell 8
  have g12 : w1.cell? ⟨w.heap.size + 1, 9, none⟩ = some (.int .i64 hi0) := B1.out.cell 9
  have g13 : w1.cell? ⟨w.heap.size + 1, 10, none⟩ = some (.int .i64 a0) := B1.out.cell 10
  have g14 : w1.cell? ⟨w.heap.size + 1, 11, none⟩ = some (.int .i64 x0) := B1.out.cell 11
  have g15 : w1.cell? ⟨w.heap.size + 1, 12, none⟩ = some (.int .i64 y0) := B1.out.cell 12
  have g16 : w1.cell? ⟨w.heap.size + 1, 13, none⟩ = some (.int .i64 z0) := B1.out.cell 13
  have EX := Ext.drew w1
  go_region_held3 (fun w' => w'.cell? ⟨w.heap.size, 0, none⟩ = some (.slice lA ln lc) ∧ w'.cell? ⟨w.heap.size, 1, none⟩ = some (.slice sA sn sc) ∧ w'.cell? ⟨w.heap.size, 2, none⟩ = some (.slice qA qn qc) ∧ w'.cell? ⟨w.heap.size + 1, 0, none⟩ = some (.int .i64 d0) ∧ w'.cell? ⟨w.heap.size + 1, 1, none⟩ = some (.int .i64 s0) ∧ w'.cell? ⟨w.heap.size + 1, 2, none⟩ = some (.int .i64 r0) ∧ w'.cell? ⟨w.heap.size + 1, 3, none⟩ = some (.int .i64 f0) ∧ w'.cell? ⟨w.heap.size + 1, 4, none⟩ = some (.int .i64 i0) ∧ w'.cell? ⟨w.heap.size + 1, 5, none⟩ = some (.int .i64 k0) ∧ w'.cell? ⟨w.heap.size + 1, 6, none⟩ = some (.int .i64 l0) ∧ w'.cell? ⟨w.heap.size + 1, 7, none⟩ = some (.int .i64 t0) ∧ w'.cell? ⟨w.heap.size + 1, 8, none⟩ = some (.int .i64 lo0) ∧ w'.cell? ⟨w.heap.size + 1, 9, none⟩ = some (.int .i64 hi0) ∧ w'.cell? ⟨w.heap.size + 1, 10, none⟩ = some (.int .i64 a0) ∧ w'.cell? ⟨w.heap.size + 1, 11, none⟩ = some (.int .i64 x0) ∧ w'.cell? ⟨w.heap.size + 1, 12, none⟩ = some (.int .i64 y0) ∧ w'.cell? ⟨w.heap.size + 1, 13, none⟩ = some (.int .i64 z0)) (first | (with_reducible exact ⟨EX.cell g0, EX.cell g1, EX.cell g2, EX.cell g3, EX.cell g4, EX.cell g5, EX.cell g6, EX.cell g7, EX.cell g8, EX.cell g9, EX.cell g10, EX.cell g11, EX.cell g12, EX.cell g13, EX.cell g14, EX.cell g15, EX.cell g16⟩) | exact ⟨cell_far (cell_far (cell_far (cell_far (cell_far (cell_far (EX.cell g0) hn0) hn0) hn0) hn0) hn0) hn0, cell_far (cell_far (cell_far (cell_far (cell_far (cell_far (EX.cell g1) hn0) hn0) hn0) hn0) hn0) hn0, cell_far (cell_far (cell_far (cell_far (cell_far (cell_far (EX.cell g2) hn0) hn0) hn0) hn0) hn0) hn0, cell_far (cell_far (cell_far (cell_far (cell_far (cell_far (EX.cell g3) hn1) hn1) hn1) hn1) hn1) hn1, cell_far (cell_far (cell_far (cell_far (cell_far (cell_far (EX.cell g4) hn1) hn1) hn1) hn1) hn1) hn1, cell_far (cell_far (cell_far (cell_far (cell_far (cell_far (EX.cell g5) hn1) hn1) hn1) hn1) hn1) hn1, cell_far (cell_far (cell_far (cell_far (cell_far (cell_far (EX.cell g6) hn1) hn1) hn1) hn1) hn1) hn1, cell_far (cell_far (cell_far (cell_far (cell_far (cell_far (EX.cell g7) hn1) hn1) hn1) hn1) hn1) hn1, cell_far (cell_far (cell_far (cell_far (cell_far (cell_far (EX.cell g8) hn1) hn1) hn1) hn1) hn1) hn1, cell_far (cell_far (cell_far (cell_far (cell_far (cell_far (EX.cell g9) hn1) hn1) hn1) hn1) hn1) hn1, cell_far (cell_far (cell_far (cell_far (cell_far (cell_far (EX.cell g10) hn1) hn1) hn1) hn1) hn1) hn1, cell_far (cell_far (cell_far (cell_far (cell_far (cell_far (EX.cell g11) hn1) hn1) hn1) hn1) hn1) hn1, cell_far (cell_far (cell_far (cell_far (cell_far (cell_far (EX.cell g12) hn1) hn1) hn1) hn1) hn1) hn1, cell_far (cell_far (cell_far (cell_far (cell_far (cell_far (EX.cell g13) hn1) hn1) hn1) hn1) hn1) hn1, cell_far (cell_far (cell_far (cell_far (cell_far (cell_far (EX.cell g14) hn1) hn1) hn1) hn1) hn1) hn1, cell_far (cell_far (cell_far (cell_far (cell_far (cell_far (EX.cell g15) hn1) hn1) hn1) hn1) hn1) hn1, cell_far (cell_far (cell_far (cell_far (cell_far (cell_far (EX.cell g16) hn1) hn1) hn1) hn1) hn1) hn1⟩ | go_keep) (first
    | ((go_at_call 22; with_reducible refine (onTrace_any _ _ _ _ _ _ _ _ _ _ _ _ _ _ _).mono ?_); rintro e w4 ⟨rfl, ⟨b4, b5⟩, e4⟩; have b4' := (show Blk w4 w1.heap.size 26 #[.slice tA tn tc] from b4); have b5' := (show Blk w4 (w1.heap.size + 1) 30 #[.int .i64 d0, .int .i64 s0, .int .i64 r0, .int .i64 f0, .int .i64 i0, .int .i64 k0, .int .i64 l0, .int .i64 t0, .int .i64 lo0, .int .i64 hi0, .int .i64 a0, .int .i64 x0, .int .i64 y0, .int .i64 z0] from b5); have EX := Ext.trans EX e4; have hw4 : w1.heap.size ≤ w4.heap.size := EX.size)
    | ((go_at_call 19; with_reducible refine (HFO.out _ _ _ _ _ (Ext.trans E1.out EX) (B1.out.ext EX) (B0.out.ext EX) b4' b5').mono ?_); rintro e w5 ⟨C, hC1, hC2, hC3, ⟨vS, rfl, ⟨cA5, cc5, aA5, ac5, rA5, rc5, tA5, tc5, rfl, m1, m2, m3, m4, m5⟩, hlens, e5⟩⟩; have EX := Ext.trans EX e5; have D2 := B2.out.ext EX; have y0' := D2.cell 0; have y1' := D2.cell 1; have y2' := D2.cell 2; have y3' := D2.cell 3; have y4' := D2.cell 4; have y5' := D2.cell 5; have x0' := D2.frozen 0; have x1' := D2.frozen 1; have x2' := D2.frozen 2; have x3' := D2.frozen 3; have x4' := D2.frozen 4; have x5' := D2.frozen 5))
  all_goals
    have HCC := hide (And.intro hC1 (And.intro hC2 hC3))
    clear hC1 hC2 hC3
    have X5 := Ext.trans E1.out EX
    rw [hLn] at hlens m1 m2 m3 m4
    generalize hF5 : folF f0 s0 r0 L S (gvF C) (trF T d0) ln = F at *
    have HF5 := hide hF5
    clear hF5
    have hbig : w.heap.size + 1 + 1 < w4.heap.size := Nat.lt_of_lt_of_le B2.out.lt hw4
    have HM5 := hide (And.intro m1 (And.intro m2 (And.intro m3 (And.intro m4 m5))))
    refine gen_the fun W6 h6 => ?_
    have S6 : Blk W6 (w.heap.size + 1 + 1) 33 #[.slice cA5 F.ch.length cc5, .slice aA5 F.asd.length ac5, .slice rA5 F.arr.length rc5, .int .i64 F.w.beg, .slice tA5 F.w.stalls.length tc5, .int .i64 (F.w.at_ + F.w.buf)] := by rw [h6]; exact (((((D2.set_ 0 _).set_ 1 _).set_ 2 _).set_ 3 _).set_ 4 _).set_ 5 _
    have T6 : Tw w5 W6 (w.heap.size + 1 + 1) none := by rw [h6]; (repeat' (first | (with_reducible exact Tw.refl _ _ _) | (with_reducible refine Tw.trans ?_ (Tw.set_ _ _ _ _ _))))
    clear h6
    have k0' := S6.cell 0
    have k1' := S6.cell 1
    have k2' := S6.cell 2
    have k3' := S6.cell 3
    have k4' := S6.cell 4
    have k5' := S6.cell 5
    have X6 := hide (Below.trans X5 (T6.below X5.size (by omega) (fun b hb => by cases hb)))
    have HR5 := hide (And.intro (m1.tw T6 (fun a ha => ⟨by have := m5 a (.inl ha); omega, by simp⟩)) (And.intro (m2.tw T6 (fun a ha => ⟨by have := m5 a (.inr (.inl ha)); omega, by simp⟩)) (And.intro (m3.tw T6 (fun a ha => ⟨by have := m5 a (.inr (.inr (.inl ha))); omega, by simp⟩)) (m4.tw T6 (fun a ha => ⟨by have := m5 a (.inr (.inr (.inr ha))); omega, by simp⟩)))))
    have HL5 := hide hlens
    have HLn := hide hLn
    have HM6 := hide m5
    clear m1 m2 m3 m4 m5 hlens T6 X5
    go_wp2_with fail
    refine bodyPost_ret (v := .tuple #[.agg #[.slice cA5 F.ch.length cc5, .slice aA5 F.asd.length ac5, .slice rA5 F.arr.length rc5, .int .i64 F.w.beg, .slice tA5 F.w.stalls.length tc5, .int .i64 (F.w.at_ + F.w.buf)], .int .i64 0]) (by simp [results, Try.results7, go_sem, k0', k1', k2', k3', k4', k5']) rfl ⟨X6.out, fun h => absurd hu'.out h, fun _ => ?_⟩
    refine ⟨C, _, HCC.out, rfl, ?_⟩
    rw [HLn.out, HF5.out]
    exact ⟨⟨cA5, cc5, aA5, ac5, rA5, rc5, tA5, tc5, rfl, HR5.out.1, HR5.out.2.1, HR5.out.2.2.1, HR5.out.2.2.2, fun a ha => by have := HM6.out a ha; omega⟩, HL5.out⟩

end
end Go.Proofs.Ytajadgpkmommmaa
