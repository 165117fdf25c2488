/- Walk: Run of the program: it follows its player with some choices. Conditions as stated. -/
import Derived.Test.YtfelgolfebhmkaaDoorMtm29
import Derived.Test.YtfelgolfebhmkaaDoorMtm39
namespace Go.Proofs.YtfelgolfebhmkaaDoor
open Go.RowKit
section
variable {lA : Option Addr} {ln lc : Nat} {sA : Option Addr} {sn sc : Nat} {qA : Option Addr} {qn qc : Nat} {L : List Int} {S : List (List Int)} {Q : List Int} {d0 s0 r0 f0 i0 k0 l0 t0 lo0 hi0 a0 x0 y0 z0 : Int} {nx tm bu bf : Int} {ldA : Option Addr} {ldn ldc : Nat} {w : World} {T LD : List (Int × Int)} {C : List Int}
theorem run_traceC (hF : filmF L S Q = 0) (hT : trcF T = 0) (hd : 0 ≤ d0 ∧ d0 ≤ 100000) (hC : okC S.length C) : RunOk f0 s0 r0 L S (gvF C) (trF T d0) 1000000000000 1000100000 := by
  have ok := filmF_ok hF
  refine ⟨fun i hi => ⟨by have := (ok.lr i hi).1; omega, (ok.lr i hi).2⟩, ok.l1, by omega, by omega, fun n hn h1 h2 h3 => ?_⟩
  have hl := ok.l1
  have hr := hC n
  have e1 : rN f0 s0 r0 L S (gvF C) (trF T d0) n = C.getD n 0 := rfl
  have hz := ok.sr (C.getD n 0).toNat (by omega) n hn
  have hb := ask_bd (full := f0) (long := L.getD n 0) h1
  have hX := (ok.lr n hn)
  have e2 : asN f0 s0 r0 L S (gvF C) (trF T d0) n = askT f0 (L.getD n 0) (folF f0 s0 r0 L S (gvF C) (trF T d0) n).w := rfl
  have e3 : tN f0 s0 r0 L S (gvF C) (trF T d0) n = endsP T (askT f0 (L.getD n 0) (folF f0 s0 r0 L S (gvF C) (trF T d0) n).w + d0) ((S.getD (C.getD n 0).toNat []).getD n 0) := rfl
  have hn2 : (n : Int) * 1000100000 ≤ 200 * 1000100000 := by omega
  have he := ends_bd hT (f := askT f0 (L.getD n 0) (folF f0 s0 r0 L S (gvF C) (trF T d0) n).w + d0) (b := (S.getD (C.getD n 0).toNat []).getD n 0) ⟨by omega, by omega⟩ ⟨by omega, by omega⟩
  rw [e1, e2, e3]
  refine ⟨⟨by omega, by omega⟩, by omega, by omega⟩
theorem loads_okR (hF : filmF L S Q = 0) (hT : trcF T = 0) (hd : 0 ≤ d0 ∧ d0 ≤ 100000) (hC : okC S.length C) : ∀ n, n ≤ L.length → ∀ j, j < (folF f0 s0 r0 L S (gvF C) (trF T d0) n).loads.length → okH ((folF f0 s0 r0 L S (gvF C) (trF T d0) n).loads.getD j (0, 0)) = true
  | 0, _, j, hj => absurd hj (Nat.not_lt_zero j)
  | n + 1, hn, j, hj => by
    have hR := run_traceC (f0 := f0) (s0 := s0) (r0 := r0) hF hT hd hC
    have ok := filmF_ok hF
    obtain ⟨h1, h2, h3, h4⟩ := hR.all n (by omega)
    have hl := ok.l1
    have hn2 : (n : Int) * 1000100000 ≤ 200 * 1000100000 := by omega
    obtain ⟨_, c1, c2⟩ := hR.comes n (by omega) h1 h2 (by omega)
    have hab := ask_bd (full := f0) (long := L.getD n 0) h1
    have e2 : asN f0 s0 r0 L S (gvF C) (trF T d0) n = askT f0 (L.getD n 0) (folF f0 s0 r0 L S (gvF C) (trF T d0) n).w := rfl
    rw [← e2] at hab
    have hz : 0 ≤ zN f0 s0 r0 L S (gvF C) (trF T d0) n ∧ zN f0 s0 r0 L S (gvF C) (trF T d0) n ≤ 1000000000 := size_any ok _ _
    have e : (folF f0 s0 r0 L S (gvF C) (trF T d0) (n + 1)).loads = (folF f0 s0 r0 L S (gvF C) (trF T d0) n).loads ++ [(zN f0 s0 r0 L S (gvF C) (trF T d0) n, tN f0 s0 r0 L S (gvF C) (trF T d0) n - asN f0 s0 r0 L S (gvF C) (trF T d0) n)] := rfl
    rw [e] at hj ⊢
    rw [List.length_append, List.length_singleton] at hj
    by_cases hj2 : j < (folF f0 s0 r0 L S (gvF C) (trF T d0) n).loads.length
    · have := loads_okR hF hT hd hC n (by omega) j hj2
      simp only [List.getD_eq_getElem?_getD] at this ⊢
      rw [List.getElem?_append_left hj2]
      exact this
    · have hje : j = (folF f0 s0 r0 L S (gvF C) (trF T d0) n).loads.length := by omega
      simp only [List.getD_eq_getElem?_getD]
      rw [List.getElem?_append_right (by omega), hje]
      simp only [Nat.sub_self, List.getElem?_cons_zero, Option.getD_some]
      unfold okH
      rw [decide_eq_true_iff]
      exact ⟨hz.1, hz.2, by simp only; omega, by simp only; omega⟩
theorem before_ok (hC : okC S.length C) (h0 : 0 < S.length) : ∀ n, 0 ≤ (folF f0 s0 r0 L S (gvF C) (trF T d0) n).before ∧ (folF f0 s0 r0 L S (gvF C) (trF T d0) n).before < S.length
  | 0 => ⟨Int.le_refl _, by show (0 : Int) < _; omega⟩
  | n + 1 => hC n
theorem plrF_zero14 (h : plrF d0 s0 r0 f0 i0 k0 l0 t0 lo0 hi0 a0 x0 y0 z0 = 0) : 0 ≤ i0 := by
  unfold plrF at h
  split at h
  · omega
  · omega
set_option maxRecDepth 1000000 in
set_option maxHeartbeats 8000000 in
theorem pick_some {g1 g2 n b : Nat} {W : World} (h : Shw W lA ln lc sA sn sc qA qn qc L S Q) (ok : FilmOk L S Q) (hP : plrF d0 s0 r0 f0 i0 k0 l0 t0 lo0 hi0 a0 x0 y0 z0 = 0) (hi : i0 < (sn : Int)) (hn : n < ln) (hb : b < sn) (hbu : 0 ≤ bu ∧ bu ≤ 2000000000000) (hLD : At W 2 e2 ldA ldn ldc LD) (hldn : ldn ≤ 200) (hok : ∀ j, j < LD.length → okH (LD.getD j (0, 0)) = true)
    (b1 : Blk W g1 29 #[.int .i64 d0, .int .i64 s0, .int .i64 r0, .int .i64 f0, .int .i64 i0, .int .i64 k0, .int .i64 l0, .int .i64 t0, .int .i64 lo0, .int .i64 hi0, .int .i64 a0, .int .i64 x0, .int .i64 y0, .int .i64 z0]) (b2 : Blk W g2 25 #[.slice lA ln lc, .slice sA sn sc, .slice qA qn qc]) :
    Calls Tryd.prog 13 #[.agg #[.int .i64 (n : Int), .int .i64 tm, .int .i64 bu, .slice ldA ldn ldc, .int .i64 (b : Int)], .pointer (some ⟨g1, 0, none⟩), .pointer (some ⟨g2, 0, none⟩)] W fun e w' => (∃ r : Nat, e = .returned (.int .i64 (r : Int)) ∧ r < sn ∧ ((n = 0 → (r : Int) = i0) ∧ (0 < n → k0 = 2 → (r : Int) = rateC (ratesL L S) (sumB (LD.drop (ldn - l0.toNat))) (sumG (LD.drop (ldn - l0.toNat))) t0))) ∧ Ext W w' := by
  have hi1 := plrF_zero14 hP
  have HC := hide (fun (V : World) (hV : Ext W V) => choose_some (d0 := d0) (s0 := s0) (r0 := r0) (f0 := f0) (i0 := i0) (k0 := k0) (l0 := l0) (t0 := t0) (lo0 := lo0) (hi0 := hi0) (a0 := a0) (x0 := x0) (y0 := y0) (z0 := z0) (n := n) (b := b) (tm := tm) (bu := bu) (h.ext hV) ok hP hi hn hb hbu (hLD.ext hV) hldn hok)
  obtain ⟨r, hr⟩ : ∃ r : Nat, i0 = (r : Int) := ⟨i0.toNat, by omega⟩
  have HR := hide hr
  have hrs : r < sn := by omega
  have EA := Ext.alloc W (.cells #[.int .i64 (n : Int), .int .i64 tm, .int .i64 bu, .slice ldA ldn ldc, .int .i64 (b : Int)] 57)
  have B1 := b1.ext EA
  have B2 := b2.ext EA
  have BS := Blk.new W 57 #[.int .i64 (n : Int), .int .i64 tm, .int .i64 bu, .slice ldA ldn ldc, .int .i64 (b : Int)]
  have HE := hide EA
  by_cases h0 : n = 0
  · subst h0
    have q4 : (W.alloc (.cells #[.int .i64 0, .int .i64 tm, .int .i64 bu, .slice ldA ldn ldc, .int .i64 (b : Int)] 57)).cell? ⟨g1, 4, none⟩ = some (.int .i64 i0) := (b1.ext (Ext.alloc _ _)).cell 4
    have e0 : (((0 : Nat) : Int) == 0) = true := rfl
    clear hr hP h ok hi hn hb hbu hLD hldn hok hi1 B2 b1 b2 EA
    go_enter Tryd.func13, Tryd.ntmps13
    go_wp2
    go_ret
    exact ⟨⟨r, ret_int HR.out, hrs, fun _ => HR.out.symm, fun h => absurd h (Nat.lt_irrefl 0)⟩, HE.out⟩
  · have e0 : ((n : Int) == 0) = false := by rw [beq_eq_false_iff_ne]; omega
    have hn0 := hide h0
    have u0' := B2.cell 0
    have u1' := B2.cell 1
    have u2' := B2.cell 2
    have v0' := B1.cell 0
    have v1' := B1.cell 1
    have v2' := B1.cell 2
    have v3' := B1.cell 3
    have v4' := B1.cell 4
    have v5' := B1.cell 5
    have v6' := B1.cell 6
    have v7' := B1.cell 7
    have v8' := B1.cell 8
    have v9' := B1.cell 9
    have v10' := B1.cell 10
    have v11' := B1.cell 11
    have v12' := B1.cell 12
    have v13' := B1.cell 13
    have x0' := BS.cell 0
    have x1' := BS.cell 1
    have x2' := BS.cell 2
    have x3' := BS.cell 3
    have x4' := BS.cell 4
    clear hr hP h ok hi hn hb hbu hLD hldn hok hi1 b1 b2 EA h0 B1 B2 BS
    go_enter Tryd.func13, Tryd.ntmps13
    go_wp2_with fail
    refine (HC.out _ HE.out).mono ?_
    rintro e w1 ⟨⟨q, rfl, hq, hk⟩, e1⟩
    go_wp2
    go_ret
    exact ⟨⟨q, rfl, hq, fun h => absurd h hn0.out, fun _ => hk⟩, Ext.trans HE.out e1⟩
theorem follow_run {W : World} {g1 g2 q2 q3 : Nat} {tA : Option Addr} {tn tc : Nat} (hF : filmF L S Q = 0) (hT0 : trcF T = 0) (hP : plrF d0 s0 r0 f0 i0 k0 l0 t0 lo0 hi0 a0 x0 y0 z0 = 0) (hi : i0 < (S.length : Int))
    (h : Shw W lA ln lc sA sn sc qA qn qc L S Q) (hT : At W 2 e2 tA tn tc T) (p1 : Blk W g1 29 #[.int .i64 d0, .int .i64 s0, .int .i64 r0, .int .i64 f0, .int .i64 i0, .int .i64 k0, .int .i64 l0, .int .i64 t0, .int .i64 lo0, .int .i64 hi0, .int .i64 a0, .int .i64 x0, .int .i64 y0, .int .i64 z0]) (p2 : Blk W g2 25 #[.slice lA ln lc, .slice sA sn sc, .slice qA qn qc]) (b2 : Blk W q2 32 #[.slice tA tn tc]) (b3 : Blk W q3 29 #[.int .i64 d0, .int .i64 s0, .int .i64 r0, .int .i64 f0, .int .i64 i0, .int .i64 k0, .int .i64 l0, .int .i64 t0, .int .i64 lo0, .int .i64 hi0, .int .i64 a0, .int .i64 x0, .int .i64 y0, .int .i64 z0]) :
    Calls Tryd.prog 12 #[shV lA ln lc sA sn sc qA qn qc, .agg #[.int .i64 d0, .int .i64 s0, .int .i64 r0, .int .i64 f0, .int .i64 i0, .int .i64 k0, .int .i64 l0, .int .i64 t0, .int .i64 lo0, .int .i64 hi0, .int .i64 a0, .int .i64 x0, .int .i64 y0, .int .i64 z0], .func (.func 13) #[] #[.pointer (some ⟨g1, 0, none⟩), .pointer (some ⟨g2, 0, none⟩)], .func (.func 35) #[] #[.pointer (some ⟨q2, 0, none⟩), .pointer (some ⟨q3, 0, none⟩)]] W
      fun e w' => ∃ C, C.length = L.length ∧ okC S.length C ∧ (∀ n, n < L.length → (fun n F r => (n = 0 → r = i0) ∧ (0 < n → k0 = 2 → r = rateC (ratesL L S) (sumB (F.loads.drop (F.loads.length - l0.toNat))) (sumG (F.loads.drop (F.loads.length - l0.toNat))) t0)) n (folF f0 s0 r0 L S (gvF C) (trF T d0) n) (C.getD n 0)) ∧ FolGives W L.length (folF f0 s0 r0 L S (gvF C) (trF T d0) L.length) e w' := by
  have ok := filmF_ok hF
  have hd := (plrF_zero hP).1
  have hf := (plrF_zero hP).2
  have hsl := h.sizes.len
  have hll := h.longs.len
  have hR := fun C hC => run_traceC (f0 := f0) (s0 := s0) (r0 := r0) (C := C) hF hT0 hd hC
  refine follow_some (M := 1000000000000) (D := 1000100000) (GG := (fun n F r => (n = 0 → r = i0) ∧ (0 < n → k0 = 2 → r = rateC (ratesL L S) (sumB (F.loads.drop (F.loads.length - l0.toNat))) (sumG (F.loads.drop (F.loads.length - l0.toNat))) t0))) (fun _ _ => rfl) (fun _ _ => rfl) h ok.sl (size_any ok) ok.s0 ok.l1 hR (by omega) ⟨by omega, by omega⟩ ?_ ?_
  · intro C hC W' hW n hn ldA ldn ldc hLD
    obtain ⟨h1, h2, h3, h4⟩ := (hR C hC).all n (by omega)
    have hb := ask_bd (full := f0) (long := L.getD n 0) h1
    have hl := ok.l1
    have hn2 : (n : Int) * 1000100000 ≤ 200 * 1000100000 := by omega
    have e2 : asN f0 s0 r0 L S (gvF C) (trF T d0) n = askT f0 (L.getD n 0) (folF f0 s0 r0 L S (gvF C) (trF T d0) n).w := rfl
    have hbf := before_ok (C := C) (f0 := f0) (s0 := s0) (r0 := r0) (T := T) (L := L) (d0 := d0) hC ok.s0 n
    have hlen := (fol_len f0 s0 r0 L S (gvF C) (trF T d0) n).2.2.2.1
    have hbu : 0 ≤ bufT (folF f0 s0 r0 L S (gvF C) (trF T d0) n).w (asN f0 s0 r0 L S (gvF C) (trF T d0) n) ∧ bufT (folF f0 s0 r0 L S (gvF C) (trF T d0) n).w (asN f0 s0 r0 L S (gvF C) (trF T d0) n) ≤ 2000000000000 := by
      rw [e2]
      unfold bufT
      have := h1.1
      split <;> omega
    have hok := loads_okR (f0 := f0) (s0 := s0) (r0 := r0) (d0 := d0) (C := C) hF hT0 hd hC n (by omega)
    have hldn : ldn = n := by rw [← hLD.len, hlen]
    generalize (folF f0 s0 r0 L S (gvF C) (trF T d0) n).before = bf at *
    obtain ⟨b, rfl⟩ : ∃ b : Nat, bf = (b : Int) := ⟨bf.toNat, by omega⟩
    have hp := pick_some (d0 := d0) (s0 := s0) (r0 := r0) (f0 := f0) (i0 := i0) (k0 := k0) (l0 := l0) (t0 := t0) (lo0 := lo0) (hi0 := hi0) (a0 := a0) (x0 := x0) (y0 := y0) (z0 := z0) (n := n) (b := b) (tm := asN f0 s0 r0 L S (gvF C) (trF T d0) n) (h.ext hW) ok hP (by omega) (by omega) (by omega) hbu hLD (by omega) hok (p1.ext hW) (p2.ext hW)
    refine hp.mono fun e w' hh => ?_
    obtain ⟨⟨r, e1, e2', e3⟩, e4⟩ := hh
    refine ⟨⟨r, e1, by omega, ?_⟩, e4⟩
    rw [← hLD.len] at e3
    exact e3
  · intro C hC W' hW n hn
    obtain ⟨h1, h2, h3, _⟩ := (hR C hC).all n (by omega)
    have hb := ask_bd (full := f0) (long := L.getD n 0) h1
    have hl := ok.l1
    have e2 : asN f0 s0 r0 L S (gvF C) (trF T d0) n = askT f0 (L.getD n 0) (folF f0 s0 r0 L S (gvF C) (trF T d0) n).w := rfl
    have hz : 0 ≤ zN f0 s0 r0 L S (gvF C) (trF T d0) n ∧ zN f0 s0 r0 L S (gvF C) (trF T d0) n ≤ 1000000000 := size_any ok _ _
    rw [← e2] at hb
    have hn2 : (n : Int) * 1000100000 ≤ 200 * 1000100000 := by omega
    exact onTraceC_any (hW.cell (b2.cell 0)) (hW.cell (b3.cell 0)) (hT.ext hW) hT0 ⟨by omega, by omega⟩ hd ⟨by omega, by omega⟩ hz
end
end Go.Proofs.YtfelgolfebhmkaaDoor
