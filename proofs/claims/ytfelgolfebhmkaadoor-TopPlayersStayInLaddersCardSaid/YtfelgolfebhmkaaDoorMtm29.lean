/- Walk: follow of the program, where each pick gives some rendition. Conditions: as stated. -/
import Derived.Test.YtfelgolfebhmkaaDoorMtm28
namespace Go.Proofs.YtfelgolfebhmkaaDoor
open Go.RowKit
def okC (m : Nat) (C : List Int) : Prop := ∀ i, 0 ≤ C.getD i 0 ∧ C.getD i 0 < m
theorem okC_nil {m : Nat} (h : 0 < m) : okC m [] := fun i => by simp; exact h
theorem getD_snoc {C : List Int} {r : Int} (i : Nat) : (C ++ [r]).getD i 0 = if i = C.length then r else C.getD i 0 := by
  simp only [List.getD_eq_getElem?_getD]
  by_cases h : i < C.length
  · rw [if_neg (by omega), List.getElem?_append_left h]
  · rw [List.getElem?_append_right (by omega)]
    by_cases h2 : i = C.length
    · rw [if_pos h2, h2]; simp
    · rw [if_neg h2, List.getElem?_eq_none (by simp; omega), List.getElem?_eq_none (by omega)]
theorem okC_snoc {m : Nat} {C : List Int} {r : Int} (h : okC m C) (hr : 0 ≤ r ∧ r < m) : okC m (C ++ [r]) := fun i => by
  rw [getD_snoc]
  split
  · exact hr
  · exact h i
theorem fol_ext {full start resume : Int} {L : List Int} {S : List (List Int)} {av : Int → Int → Int} {C C' : List Int} : ∀ n, (∀ i, i < n → C'.getD i 0 = C.getD i 0) → folF full start resume L S (gvF C') av n = folF full start resume L S (gvF C) av n
  | 0, _ => rfl
  | n + 1, h => by
    have ih := fol_ext (full := full) (start := start) (resume := resume) (L := L) (S := S) (av := av) (C := C) (C' := C') n (fun i hi => h i (by omega))
    show stepF full start resume L S (gvF C') av n (folF full start resume L S (gvF C') av n) = stepF full start resume L S (gvF C) av n (folF full start resume L S (gvF C) av n)
    rw [ih]
    unfold stepF gvF
    rw [h n (by omega)]
theorem fol_snoc {full start resume : Int} {L : List Int} {S : List (List Int)} {av : Int → Int → Int} {C : List Int} (r : Int) {n : Nat} (h : n ≤ C.length) : folF full start resume L S (gvF (C ++ [r])) av n = folF full start resume L S (gvF C) av n ∧ asN full start resume L S (gvF (C ++ [r])) av n = asN full start resume L S (gvF C) av n := by
  have e := fol_ext (full := full) (start := start) (resume := resume) (L := L) (S := S) (av := av) (C := C) (C' := C ++ [r]) n (fun i hi => by rw [getD_snoc, if_neg (by omega)])
  exact ⟨e, by unfold asN; rw [e]⟩
theorem fol_next (full start resume : Int) (L : List Int) (S : List (List Int)) (pk : Nat → Int → Int → List (Int × Int) → Int → Int) (av : Int → Int → Int) (n : Nat) :
    folF full start resume L S pk av (n + 1) = ⟨camT start resume (L.getD n 0) (tN full start resume L S pk av n) (decide (n + 1 = L.length)) (folF full start resume L S pk av n).w, (folF full start resume L S pk av n).loads ++ [(zN full start resume L S pk av n, tN full start resume L S pk av n - asN full start resume L S pk av n)], (folF full start resume L S pk av n).ch ++ [rN full start resume L S pk av n], (folF full start resume L S pk av n).asd ++ [asN full start resume L S pk av n], (folF full start resume L S pk av n).arr ++ [tN full start resume L S pk av n], rN full start resume L S pk av n⟩ := rfl
section
variable {lA : Option Addr} {ln lc : Nat} {sA : Option Addr} {sn sc : Nat} {qA : Option Addr} {qn qc : Nat} {d0 s0 r0 f0 i0 k0 l0 t0 lo0 hi0 a0 x0 y0 z0 : Int} {L : List Int} {S : List (List Int)} {Q : List Int} {av : Int → Int → Int} {w : World}
set_option maxRecDepth 1000000 in
set_option maxHeartbeats 16000000 in
theorem follow_some {gp ga : Nat} {pP pQ pA pB : Value} {M D : Int} {GG : Nat → FoT → Int → Prop} (egp : ∀ args w, (callFunc gp args).run Tryd.prog w = .ok (.enter gp args) w) (ega : ∀ args w, (callFunc ga args).run Tryd.prog w = .ok (.enter ga args) w)
    (hS : Shw w lA ln lc sA sn sc qA qn qc L S Q) (hrow : ∀ i, i < S.length → (S.getD i []).length = L.length) (hsz : ∀ i j, 0 ≤ (S.getD i []).getD j 0 ∧ (S.getD i []).getD j 0 ≤ 1000000000) (hs0 : 0 < S.length) (hl2 : L.length ≤ 200)
    (hR : ∀ C, okC S.length C → RunOk f0 s0 r0 L S (gvF C) av M D) (hMD : M + 200 * D ≤ 500000000000000000) (hf0 : 0 ≤ f0 ∧ f0 ≤ 1000000000)
    (hp : ∀ C, okC S.length C → ∀ W, Ext w W → ∀ n, n < L.length → ∀ (ldA : Option Addr) (ldn ldc : Nat), At W 2 e2 ldA ldn ldc (folF f0 s0 r0 L S (gvF C) av n).loads → Calls Tryd.prog gp #[.agg #[.int .i64 (n : Int), .int .i64 (asN f0 s0 r0 L S (gvF C) av n), .int .i64 (bufT (folF f0 s0 r0 L S (gvF C) av n).w (asN f0 s0 r0 L S (gvF C) av n)), .slice ldA ldn ldc, .int .i64 (folF f0 s0 r0 L S (gvF C) av n).before], pP, pQ] W fun e w' => (∃ r : Nat, e = .returned (.int .i64 r) ∧ r < S.length ∧ GG n (folF f0 s0 r0 L S (gvF C) av n) r) ∧ Ext W w')
    (ha : ∀ C, okC S.length C → ∀ W, Ext w W → ∀ n, n < L.length → Calls Tryd.prog ga #[.int .i64 (asN f0 s0 r0 L S (gvF C) av n), .int .i64 (zN f0 s0 r0 L S (gvF C) av n), pA, pB] W fun e w' => e = .returned (.int .i64 (tN f0 s0 r0 L S (gvF C) av n)) ∧ Ext W w') :
    Calls Tryd.prog 12 #[shV lA ln lc sA sn sc qA qn qc, .agg #[.int .i64 d0, .int .i64 s0, .int .i64 r0, .int .i64 f0, .int .i64 i0, .int .i64 k0, .int .i64 l0, .int .i64 t0, .int .i64 lo0, .int .i64 hi0, .int .i64 a0, .int .i64 x0, .int .i64 y0, .int .i64 z0], .func (.func gp) #[] #[pP, pQ], .func (.func ga) #[] #[pA, pB]] w fun e w' => ∃ C, C.length = L.length ∧ okC S.length C ∧ (∀ n, n < L.length → GG n (folF f0 s0 r0 L S (gvF C) av n) (C.getD n 0)) ∧ FolGives w L.length (folF f0 s0 r0 L S (gvF C) av L.length) e w' := by
  have HLL := hS.longs.len
  have hbn := hS.longs.bound
  have hfew := hl2
  have HSS := hide hS
  have HR := hide hR
  have HROW := hide hrow
  have HSZ := hide hsz
  have HP := hide hp
  have HA := hide ha
  have HFL := hide (fun C => fol_len f0 s0 r0 L S (gvF C) av)
  have HX0 : Hid (Ext w ((((w.alloc (.cells #[.slice lA ln lc, .slice sA sn sc, .slice qA qn qc] 25)).alloc (.cells #[.int .i64 d0, .int .i64 s0, .int .i64 r0, .int .i64 f0, .int .i64 i0, .int .i64 k0, .int .i64 l0, .int .i64 t0, .int .i64 lo0, .int .i64 hi0, .int .i64 a0, .int .i64 x0, .int .i64 y0, .int .i64 z0] 29)).alloc (.cells #[.slice none 0 0, .slice none 0 0, .slice none 0 0, .int .i64 0, .slice none 0 0, .int .i64 0] 38)).alloc (.cells #[.slice lA ln lc, .slice sA sn sc, .slice qA qn qc, .int .i64 d0, .int .i64 s0, .int .i64 r0, .int .i64 f0, .int .i64 i0, .int .i64 k0, .int .i64 l0, .int .i64 t0, .int .i64 lo0, .int .i64 hi0, .int .i64 a0, .int .i64 x0, .int .i64 y0, .int .i64 z0, .slice none 0 0, .slice none 0 0, .slice none 0 0, .int .i64 0, .slice none 0 0, .int .i64 0, .slice none 0 0, .int .i64 0, .int .i64 0, .bool false, .bool false, .int .i64 0] 77))) := hide (ext_alloc (ext_alloc (ext_alloc (Ext.alloc _ _) _) _) _)
  have HB0 := Blk.new (((w.alloc (.cells #[.slice lA ln lc, .slice sA sn sc, .slice qA qn qc] 25)).alloc (.cells #[.int .i64 d0, .int .i64 s0, .int .i64 r0, .int .i64 f0, .int .i64 i0, .int .i64 k0, .int .i64 l0, .int .i64 t0, .int .i64 lo0, .int .i64 hi0, .int .i64 a0, .int .i64 x0, .int .i64 y0, .int .i64 z0] 29)).alloc (.cells #[.slice none 0 0, .slice none 0 0, .slice none 0 0, .int .i64 0, .slice none 0 0, .int .i64 0] 38)) 77 #[.slice lA ln lc, .slice sA sn sc, .slice qA qn qc, .int .i64 d0, .int .i64 s0, .int .i64 r0, .int .i64 f0, .int .i64 i0, .int .i64 k0, .int .i64 l0, .int .i64 t0, .int .i64 lo0, .int .i64 hi0, .int .i64 a0, .int .i64 x0, .int .i64 y0, .int .i64 z0, .slice none 0 0, .slice none 0 0, .slice none 0 0, .int .i64 0, .slice none 0 0, .int .i64 0, .slice none 0 0, .int .i64 0, .int .i64 0, .bool false, .bool false, .int .i64 0]
  have HB1 := Blk.new ((w.alloc (.cells #[.slice lA ln lc, .slice sA sn sc, .slice qA qn qc] 25)).alloc (.cells #[.int .i64 d0, .int .i64 s0, .int .i64 r0, .int .i64 f0, .int .i64 i0, .int .i64 k0, .int .i64 l0, .int .i64 t0, .int .i64 lo0, .int .i64 hi0, .int .i64 a0, .int .i64 x0, .int .i64 y0, .int .i64 z0] 29)) 38 #[.slice none 0 0, .slice none 0 0, .slice none 0 0, .int .i64 0, .slice none 0 0, .int .i64 0]
  simp only [World.size_alloc] at HB0 HB1
  have HB0 := hide HB0
  have HB1 := hide HB1
  clear hS hR hrow hsz hp ha hl2
  obtain ⟨iH, hiH, hu0, hu1, hu2⟩ := info_parts Tryd.info81
  obtain ⟨iI, hiI, hy0, hy1, hy2⟩ := info_parts Tryd.infoI
  go_enter Tryd.func12, Tryd.ntmps12
  go_wp2_with fail
  go_loopw [10, 23] (fun rb ri wr => ∃ (C : List Int) (k : Nat) (ch asd arr st ld : Value), k ≤ ln ∧ ri = .int .i64 k ∧ rb = .int .i64 (folF f0 s0 r0 L S (gvF C) av k).before ∧ Hid (C.length = k ∧ okC S.length C ∧ ∀ n, n < k → GG n (folF f0 s0 r0 L S (gvF C) av n) (C.getD n 0)) ∧ Hid (RndA w wr lA ln lc sA sn sc qA qn qc d0 s0 r0 f0 i0 k0 l0 t0 lo0 hi0 a0 x0 y0 z0 ch asd arr st ld (folF f0 s0 r0 L S (gvF C) av k))) (fun _ ri _ => ln - (intOf ri).toNat)
  case atStart =>
    exact ⟨[], 0, .slice none 0 0, .slice none 0 0, .slice none 0 0, .slice none 0 0, .slice none 0 0, by omega, rfl, rfl, hide ⟨rfl, okC_nil hs0, fun n hn => absurd hn (Nat.not_lt_zero n)⟩, hide ⟨⟨HB0.out, Own.nil _ _ _ _ _, Own.nil _ _ _ _ _, Own.nil _ _ _ _ _, Own.nil _ _ _ _ _, Own.nil _ _ _ _ _, (fun i j _ b hb => by rcases i with _ | _ | _ | _ | _ | i <;> simp [Value.ownBlock] at hb), Nat.lt_succ_self _⟩, ((Blk.new w _ _).alloc _).alloc _ |>.alloc _, HB1.out.alloc _, HX0.out⟩⟩
  case round =>
    clear HB0 HB1 HX0
    obtain ⟨C, k, ch, asd, arr, st, ld, hk, rfl, rfl, HC, HF⟩ := hrel
    by_cases hlt : k < ln
    · have hkl : k < L.length := by omega
      have hRC := HR.out C HC.out.2.1
      have hD0 := hRC.d0
      have hM0 := hRC.m0
      have hkD : (k : Int) * D ≤ 200 * D := Int.mul_le_mul_of_nonneg_right (by omega) hD0
      have hkD0 : 0 ≤ (k : Int) * D := Int.mul_nonneg (by omega) hD0
      obtain ⟨hok, hat, hsum, hbf⟩ := hRC.all k (by omega)
      obtain ⟨hx1, hx2⟩ := hRC.longs k hkl
      clear hRC
      obtain ⟨hab1, hab2⟩ : (folF f0 s0 r0 L S (gvF C) av k).w.at_ ≤ asN f0 s0 r0 L S (gvF C) av k ∧ asN f0 s0 r0 L S (gvF C) av k ≤ (folF f0 s0 r0 L S (gvF C) av k).w.at_ + (folF f0 s0 r0 L S (gvF C) av k).w.buf := ask_bd hok
      have hb0 := hok.1
      have HOK := hide hok
      clear hok
      have HASK : Hid (∀ W, Ext wr W → Calls Tryd.prog 29 #[.pointer (some ⟨(w.heap.size + 1 + 1 + 1), 0, none⟩), .int .i64 (k : Int)] W fun e w' => e = .returned (.int .i64 (asN f0 s0 r0 L S (gvF C) av k)) ∧ Ext W w') := hide (fun W hW => askTime_any (HF.out.fol.blk.ext hW) (HSS.out.longs.ext (Ext.trans HF.out.ext hW)) hlt ⟨hat, by omega⟩ ⟨hb0, by omega⟩ ⟨hx1, hx2⟩ hf0)
      have HBUF : Hid (∀ W, Ext wr W → Calls Tryd.prog 30 #[.pointer (some ⟨(w.heap.size + 1 + 1 + 1), 0, none⟩), .int .i64 (asN f0 s0 r0 L S (gvF C) av k)] W fun e w' => e = .returned (.int .i64 (bufT (folF f0 s0 r0 L S (gvF C) av k).w (asN f0 s0 r0 L S (gvF C) av k))) ∧ Ext W w') := hide (fun W hW => bufferAt_any (HF.out.fol.blk.ext hW) ⟨hat, by omega⟩ ⟨hb0, by omega⟩ ⟨by omega, by omega⟩)
      have HPK := hide (fun W hW => HP.out C HC.out.2.1 W hW k hkl)
      have HLG : Hid (∀ a, lA = some a → a.block < (w.heap.size + 1 + 1 + 1)) := hide (fun a ha => by
        have hS := HSS.out.longs
        obtain ⟨b, off, e, _⟩ := hS.addr (by omega)
        rw [e] at hS ha
        injection ha with ha
        have := cell_lt (hS.num hlt)
        rw [← ha]
        simp only at this ⊢
        omega)
      have HSTL := hide (show (folF f0 s0 r0 L S (gvF C) av k).w.stalls.length ≤ 1000 from Nat.le_trans (HFL.out C k).2.2.2.2 (by omega))
      obtain ⟨hl1, hl2, hl3, hl4, _⟩ := HFL.out C k
      have HLN := hide (And.intro hl1 (And.intro hl2 (And.intro hl3 hl4)))
      clear hl1 hl2 hl3 hl4
      have HE : Hid (∀ r, folF f0 s0 r0 L S (gvF (C ++ [r])) av k = folF f0 s0 r0 L S (gvF C) av k ∧ asN f0 s0 r0 L S (gvF (C ++ [r])) av k = asN f0 s0 r0 L S (gvF C) av k) := hide (fun r => fol_snoc r (by rw [HC.out.1]; exact Nat.le_refl _))
      have HGC : Hid (∀ r : Int, 0 ≤ r ∧ r < S.length → GG k (folF f0 s0 r0 L S (gvF C) av k) r → (C ++ [r]).length = k + 1 ∧ okC S.length (C ++ [r]) ∧ ∀ n, n < k + 1 → GG n (folF f0 s0 r0 L S (gvF (C ++ [r])) av n) ((C ++ [r]).getD n 0)) := hide (fun r hr hg => ⟨by rw [List.length_append, HC.out.1]; rfl, okC_snoc HC.out.2.1 hr, fun n hn => by
        rw [(fol_snoc r (show n ≤ C.length by rw [HC.out.1]; omega)).1, getD_snoc, HC.out.1]
        by_cases hn2 : n = k
        · subst hn2; rw [if_pos rfl]; exact hg
        · rw [if_neg hn2]; exact HC.out.2.2 n (by omega)⟩)
      have HRN : Hid (∀ r : Int, rN f0 s0 r0 L S (gvF (C ++ [r])) av k = r) := hide (fun r => by show (C ++ [r]).getD k 0 = r; rw [getD_snoc, if_pos HC.out.1.symm])
      clear HP HFL HC
      generalize folF f0 s0 r0 L S (gvF C) av k = F at *
      generalize asN f0 s0 r0 L S (gvF C) av k = a at *
      have ik0 : (0 : Int) ≤ (k : Int) := by omega
      have ik2 : (k : Int) < (ln : Int) := by omega
      obtain ⟨ldA, ldc, rfl, hld⟩ := HF.out.fol.o5.at_ len_e2
      have HLD := hide hld
      clear hld
      go_wp2_with fail
      refine (HASK.out _ (by repeat' (first | (with_reducible first | exact Below.refl _ _ | assumption | refine below_drewN ?_ _ | refine Below.drew ?_ | refine ext_alloc ?_ _ | refine Below.setCell ?_ ?_ _) | go_size))).mono ?_
      rintro e w1 ⟨rfl, e1⟩
      go_wp2_with fail
      have c23 : wr.cell? ⟨(w.heap.size + 1 + 1 + 1), 23, none⟩ = some (.slice ldA F.loads.length ldc) := HF.out.fol.blk.cell 23
      have c1 := e1.cell c23
      have hne : (w.heap.size + 1 + 1 + 1) ≠ w1.heap.size := by have := (HF.out.fol.blk.ext e1).lt; omega
      have EX := Ext.drew w1
      have hX1 := Ext.trans e1 EX
      go_region_held3 (fun w' => w'.cell? ⟨(w.heap.size + 1 + 1 + 1), 23, none⟩ = some (.slice ldA F.loads.length ldc)) (first | (with_reducible exact EX.cell c1) | ((repeat' (with_reducible refine cell_far ?_ hne)); (with_reducible exact EX.cell c1)) | (with_reducible exact c1) | go_keep | exact (show Ext w1 _ from Ext.trans EX (by repeat' (first | (with_reducible first | exact Below.refl _ _ | assumption | refine below_drewN ?_ _ | refine Below.drew ?_ | refine ext_alloc ?_ _ | refine Below.setCell ?_ ?_ _) | go_size))).cell c1 | exact (show Ext w1 _ from Ext.trans EX (Ext.alloc _ _)).cell c1) (first | ((go_at_call 30; with_reducible refine (HBUF.out _ (Ext.trans e1 EX)).mono ?_); rintro e w2 ⟨rfl, e2⟩; have EX := Ext.trans EX e2) | ((go_at_call 30; with_reducible refine (HBUF.out _ (Ext.trans e1 (Ext.trans (Ext.alloc _ _) (Ext.drew _)))).mono ?_); rintro e w2 ⟨rfl, e2⟩; have b2 : Blk w2 w1.heap.size 57 #[.int .i64 0, .int .i64 0, .int .i64 0, .slice none 0 0, .int .i64 0] := ((Blk.new w1 _ _).drew).ext e2; have bc0 : w2.cell? ⟨w1.heap.size, 0, none⟩ = some (.int .i64 0) := b2.cell 0; have bc1 : w2.cell? ⟨w1.heap.size, 1, none⟩ = some (.int .i64 0) := b2.cell 1; have bc2 : w2.cell? ⟨w1.heap.size, 2, none⟩ = some (.int .i64 0) := b2.cell 2; have bc3 : w2.cell? ⟨w1.heap.size, 3, none⟩ = some (.slice none 0 0) := b2.cell 3; have bc4 : w2.cell? ⟨w1.heap.size, 4, none⟩ = some (.int .i64 0) := b2.cell 4; have bf0 := b2.frozen 0; have bf1 := b2.frozen 1; have bf2 := b2.frozen 2; have bf3 := b2.frozen 3; have bf4 := b2.frozen 4; have EX := Ext.trans (Ext.trans (Ext.alloc _ _) (Ext.drew _)) e2))
      · refine gen_the fun W2 h2 => ?_
        have E2 : Hid (Ext wr W2) := hide (by rw [h2]; exact ext_alloc (Ext.trans e1 EX) _)
        have HB2 : Hid (Blk W2 w2.heap.size 57 #[.int .i64 (k : Int), .int .i64 a, .int .i64 (bufT F.w a), .slice ldA F.loads.length ldc, .int .i64 F.before]) := hide (by rw [h2]; exact Blk.new _ _ _)
        clear h2 EX e2 hX1 c1 hne c23 HASK HBUF
        generalize w2.heap.size = p at *
        have bc0 : W2.cell? ⟨p, 0, none⟩ = some (.int .i64 (k : Int)) := HB2.out.cell 0
        have bc1 : W2.cell? ⟨p, 1, none⟩ = some (.int .i64 a) := HB2.out.cell 1
        have bc2 : W2.cell? ⟨p, 2, none⟩ = some (.int .i64 (bufT F.w a)) := HB2.out.cell 2
        have bc3 : W2.cell? ⟨p, 3, none⟩ = some (.slice ldA F.loads.length ldc) := HB2.out.cell 3
        have bc4 : W2.cell? ⟨p, 4, none⟩ = some (.int .i64 F.before) := HB2.out.cell 4
        go_wp2_with fail
        refine (HPK.out _ (Ext.trans HF.out.ext E2.out) _ _ _ (HLD.out.ext E2.out)).mono ?_
        rintro e w3 ⟨⟨rn, rfl, hr, hg⟩, e3⟩
        have E3 := hide (Ext.trans E2.out e3)
        clear bc0 bc1 bc2 bc3 bc4 e3 HB2 E2 HPK
        have HG2 := hide (HGC.out (rn : Int) ⟨by omega, by omega⟩ hg)
        have hrN := HRN.out (rn : Int)
        obtain ⟨hFe, hae⟩ := HE.out (rn : Int)
        clear HGC HRN HE hg
        generalize C ++ [(rn : Int)] = C' at *
        have HAR := hide (fun W hW => HA.out C' HG2.out.2.1 W hW k hkl)
        obtain ⟨_, ht1, ht2⟩ := (HR.out C' HG2.out.2.1).comes k hkl (by rw [hFe]; exact HOK.out) (by rw [hFe]; exact hat) (by rw [hFe]; omega)
        have hzz : zN f0 s0 r0 L S (gvF C') av k = (S.getD rn []).getD k 0 := by unfold zN; rw [hrN]; rfl
        have HNX : Hid (folF f0 s0 r0 L S (gvF C') av (k + 1) = ⟨camT s0 r0 (L.getD k 0) (tN f0 s0 r0 L S (gvF C') av k) (decide (k + 1 = L.length)) F.w, F.loads ++ [(zN f0 s0 r0 L S (gvF C') av k, tN f0 s0 r0 L S (gvF C') av k - a)], F.ch ++ [(rn : Int)], F.asd ++ [a], F.arr ++ [tN f0 s0 r0 L S (gvF C') av k], (rn : Int)⟩) := hide (by rw [fol_next, hFe, hae, hrN])
        rw [hae] at ht1 ht2 HAR
        clear hFe hae hrN
        generalize hFq : folF f0 s0 r0 L S (gvF C') av (k + 1) = F' at *
        have HFQ := hide hFq.symm
        clear hFq
        generalize zN f0 s0 r0 L S (gvF C') av k = z at *
        generalize tN f0 s0 r0 L S (gvF C') av k = t at *
        obtain ⟨hz1, hz2⟩ : 0 ≤ z ∧ z ≤ 1000000000 := by rw [hzz]; exact HSZ.out _ _
        have HCM : Hid (∀ W (ch asd arr st ld : Value), RndA w W lA ln lc sA sn sc qA qn qc d0 s0 r0 f0 i0 k0 l0 t0 lo0 hi0 a0 x0 y0 z0 ch asd arr st ld F → Calls Tryd.prog 31 #[.pointer (some ⟨(w.heap.size + 1 + 1 + 1), 0, none⟩), .int .i64 (k : Int), .int .i64 t] W (CamGives W (w.heap.size + 1 + 1 + 1) (w.heap.size + 1 + 1 + 1 + 1) lA ln lc sA sn sc qA qn qc d0 s0 r0 f0 i0 k0 l0 t0 lo0 hi0 a0 x0 y0 z0 ch asd arr st ld 0 (camT s0 r0 (L.getD k 0) t (decide (k + 1 = L.length)) F.w))) := hide (fun W ch asd arr st ld h => came_any h.fol.blk (HSS.out.longs.ext h.ext) hlt ⟨hat, by omega⟩ ⟨hb0, by omega⟩ ⟨hx1, hx2⟩ ⟨by omega, by omega⟩ HLG.out h.fol.o4 h.fol.gB (Nat.succ_le_of_lt h.fol.blk.lt) HSTL.out HOK.out)
        have HNX2 : Hid (∀ W (ch asd arr st ld : Value), RndA w W lA ln lc sA sn sc qA qn qc d0 s0 r0 f0 i0 k0 l0 t0 lo0 hi0 a0 x0 y0 z0 ch asd arr st ld ⟨camT s0 r0 (L.getD k 0) t (decide (k + 1 = L.length)) F.w, F.loads ++ [(z, t - a)], F.ch ++ [(rn : Int)], F.asd ++ [a], F.arr ++ [t], F.before⟩ → RndA w W lA ln lc sA sn sc qA qn qc d0 s0 r0 f0 i0 k0 l0 t0 lo0 hi0 a0 x0 y0 z0 ch asd arr st ld F' ∧ F'.before = (rn : Int)) := hide (fun W ch asd arr st ld h => by
          rw [HNX.out]
          exact ⟨⟨⟨h.fol.blk, h.fol.o1, h.fol.o2, h.fol.o3, h.fol.o4, h.fol.o5, h.fol.ap, h.fol.gB⟩, h.shw, h.ses, h.ext⟩, rfl⟩)
        have hrow : (S.getD rn []).length = L.length := HROW.out _ (by omega)
        have hrs : rn < sn := by have := HSS.out.sizes.len; omega
        obtain ⟨bs, os, rfl⟩ := HSS.out.sizes.addr (by omega)
        obtain ⟨rA, rl, rc, hq0, hq1⟩ := HSS.out.sizes.row hrs
        have hrl := hq1.len
        obtain ⟨br, orr, rfl, _⟩ := hq1.addr (by omega)
        have hq2 := hq1.num (k := k) (by omega)
        rw [← hzz] at hq2
        have i1 : (k : Int) < (rl : Int) := by omega
        have i3 : (0 : Int) ≤ (rn : Int) := by omega
        have i4 : (rn : Int) < (sn : Int) := by omega
        clear hr HROW hrow hzz hq1 hrl HNX HR HA HSZ
        have R3 := hide (HF.out.ext' E3.out)
        have s1 : w3.cell? ⟨w.heap.size, 1, none⟩ = some (.slice (some ⟨bs, os, none⟩) sn sc) := R3.out.shw.cell 1
        have s2 := R3.out.ext.cell hq0
        have s3 := R3.out.ext.cell hq2
        go_wp2_with fail
        refine (HAR.out _ R3.out.ext).mono ?_
        rintro e w4 ⟨rfl, e4⟩
        have R4 := hide (R3.out.ext' e4)
        clear s1 s2 s3 e4 E3 R3 HAR HLD HF hq0 hq2
        go_wp2_with fail
        refine (HCM.out _ _ _ _ _ _ R4.out).mono ?_
        intro e w5 hcm
        obtain ⟨st', rfl, r5⟩ := R4.out.came hcm
        have R5 := hide r5
        clear hcm r5 R4 HCM
        have hwt : IntKind.i64.wrap (t - a) = t - a := by rw [IntKind.wrap_i64]; omega
        have l4 : w5.cell? ⟨(w.heap.size + 1 + 1 + 1), 23, none⟩ = some (.slice ldA F.loads.length ldc) := R5.out.fol.blk.cell 23
        have N4 := hide (At.pair1 w5 z (t - a) 81)
        go_wp2_with (at_builtin; go_loud (refine wpList_append_at _ rfl (.tmp 63) (.tmp 69) 55 rfl (w.heap.size + 1 + 1 + 1 + 1) 81 iH _ 16 Tryd.underlying55 hiH hu0 hu1 hu2 rfl (by omega) len_e2 one_e2 _ F.loads rfl (R5.out.fol.o5.ext (Ext.alloc _ _)) (some ⟨w5.heap.size, 0, none⟩) 1 1 [(z, t - a)] rfl N4.out ?b1 ?b2 ?b3 ?_))
        case b1 => have := HLN.out; unfold maxLen; omega
        case b2 => have := HLN.out; omega
        case b3 => have := R5.out.fol.blk.lt; first | omega | (rw [World.size_alloc]; omega)
        intro vv wq o7 g7 _ hob
        obtain ⟨r7, b7⟩ := R5.out.app4 o7 g7 (by rw [World.size_alloc]; exact hob)
        obtain ⟨A7, c7, hvv, _⟩ := o7.at_ len_e2
        subst hvv
        rw [show (F.loads ++ [(z, t - a)]).length = F.loads.length + 1 from List.length_append] at r7
        have l7 : wq.cell? ⟨(w.heap.size + 1 + 1 + 1), 23, none⟩ = some (.slice ldA F.loads.length ldc) := b7.cell 23
        have f7 := b7.frozen 23
        clear o7 g7 hob b7 l4 N4
        go_upto_region 13 with (fail)
        refine gen_wpC fun w6 h6 => ?_
        have R6 := hide (show RndA w w6 _ _ _ _ _ _ _ _ _ _ _ _ _ _ _ _ _ _ _ _ _ _ _ _ _ _ _ _ _ from by rw [h6]; exact r7)
        clear h6 r7 l7 f7 R5
        obtain ⟨A0, c0, rfl, _⟩ := R6.out.fol.o1.at_ len_e64
        have l0 : w6.cell? ⟨(w.heap.size + 1 + 1 + 1), 17, none⟩ = some (.slice A0 F.ch.length c0) := R6.out.fol.blk.cell 17
        have N0 := hide (At.new1 (enc := e64) w6 (rn : Int) (.int .i64 (rn : Int)) rfl 3)
        go_wp2_with (at_builtin; go_loud (refine wpList_append_at _ rfl (.tmp 78) (.tmp 80) 22 rfl (w.heap.size + 1 + 1 + 1 + 1) 3 iI _ 8 Tryd.underlying22 hiI hy0 hy1 hy2 rfl (by omega) len_e64 one_e64 _ F.ch rfl (R6.out.fol.o1.ext (Ext.alloc _ _)) (some ⟨w6.heap.size, 0, none⟩) 1 1 [(rn : Int)] rfl N0.out ?b1 ?b2 ?b3 ?_))
        case b1 => have := HLN.out; unfold maxLen; omega
        case b2 => have := HLN.out; omega
        case b3 => have := R6.out.fol.blk.lt; first | omega | (rw [World.size_alloc]; omega)
        intro vv wq o7 g7 _ hob
        obtain ⟨r7, b7⟩ := R6.out.app0 o7 g7 (by rw [World.size_alloc]; exact hob)
        obtain ⟨A7, c7, hvv, _⟩ := o7.at_ len_e64
        subst hvv
        rw [show (F.ch ++ [(rn : Int)]).length = F.ch.length + 1 from List.length_append] at r7
        have l7 : wq.cell? ⟨(w.heap.size + 1 + 1 + 1), 17, none⟩ = some (.slice A0 F.ch.length c0) := b7.cell 17
        have f7 := b7.frozen 17
        clear o7 g7 hob b7 l0 N0
        go_upto_region 14 with (fail)
        refine gen_wpC fun w7 h6 => ?_
        have R7 := hide (show RndA w w7 _ _ _ _ _ _ _ _ _ _ _ _ _ _ _ _ _ _ _ _ _ _ _ _ _ _ _ _ _ from by rw [h6]; exact r7)
        clear h6 r7 l7 f7 R6
        obtain ⟨A1, c1, rfl, _⟩ := R7.out.fol.o2.at_ len_e64
        have l1 : w7.cell? ⟨(w.heap.size + 1 + 1 + 1), 18, none⟩ = some (.slice A1 F.asd.length c1) := R7.out.fol.blk.cell 18
        have N1 := hide (At.new1 (enc := e64) w7 a (.int .i64 a) rfl 3)
        go_wp2_with (at_builtin; go_loud (refine wpList_append_at _ rfl (.tmp 90) (.tmp 92) 22 rfl (w.heap.size + 1 + 1 + 1 + 1) 3 iI _ 8 Tryd.underlying22 hiI hy0 hy1 hy2 rfl (by omega) len_e64 one_e64 _ F.asd rfl (R7.out.fol.o2.ext (Ext.alloc _ _)) (some ⟨w7.heap.size, 0, none⟩) 1 1 [a] rfl N1.out ?b1 ?b2 ?b3 ?_))
        case b1 => have := HLN.out; unfold maxLen; omega
        case b2 => have := HLN.out; omega
        case b3 => have := R7.out.fol.blk.lt; first | omega | (rw [World.size_alloc]; omega)
        intro vv wq o7 g7 _ hob
        obtain ⟨r7, b7⟩ := R7.out.app1 o7 g7 (by rw [World.size_alloc]; exact hob)
        obtain ⟨A7, c7, hvv, _⟩ := o7.at_ len_e64
        subst hvv
        rw [show (F.asd ++ [a]).length = F.asd.length + 1 from List.length_append] at r7
        have l7 : wq.cell? ⟨(w.heap.size + 1 + 1 + 1), 18, none⟩ = some (.slice A1 F.asd.length c1) := b7.cell 18
        have f7 := b7.frozen 18
        clear o7 g7 hob b7 l1 N1
        go_upto_region 15 with (fail)
        refine gen_wpC fun w8 h6 => ?_
        have R8 := hide (show RndA w w8 _ _ _ _ _ _ _ _ _ _ _ _ _ _ _ _ _ _ _ _ _ _ _ _ _ _ _ _ _ from by rw [h6]; exact r7)
        clear h6 r7 l7 f7 R7
        obtain ⟨A2, c2, rfl, _⟩ := R8.out.fol.o3.at_ len_e64
        have l2 : w8.cell? ⟨(w.heap.size + 1 + 1 + 1), 19, none⟩ = some (.slice A2 F.arr.length c2) := R8.out.fol.blk.cell 19
        have N2 := hide (At.new1 (enc := e64) w8 t (.int .i64 t) rfl 3)
        go_wp2_with (at_builtin; go_loud (refine wpList_append_at _ rfl (.tmp 102) (.tmp 104) 22 rfl (w.heap.size + 1 + 1 + 1 + 1) 3 iI _ 8 Tryd.underlying22 hiI hy0 hy1 hy2 rfl (by omega) len_e64 one_e64 _ F.arr rfl (R8.out.fol.o3.ext (Ext.alloc _ _)) (some ⟨w8.heap.size, 0, none⟩) 1 1 [t] rfl N2.out ?b1 ?b2 ?b3 ?_))
        case b1 => have := HLN.out; unfold maxLen; omega
        case b2 => have := HLN.out; omega
        case b3 => have := R8.out.fol.blk.lt; first | omega | (rw [World.size_alloc]; omega)
        intro vv wq o7 g7 _ hob
        obtain ⟨r7, b7⟩ := R8.out.app2 o7 g7 (by rw [World.size_alloc]; exact hob)
        obtain ⟨A7, c7, hvv, _⟩ := o7.at_ len_e64
        subst hvv
        rw [show (F.arr ++ [t]).length = F.arr.length + 1 from List.length_append] at r7
        have l7 : wq.cell? ⟨(w.heap.size + 1 + 1 + 1), 19, none⟩ = some (.slice A2 F.arr.length c2) := b7.cell 19
        have f7 := b7.frozen 19
        clear o7 g7 hob b7 l2 N2
        obtain ⟨n1, n2⟩ := HNX2.out _ _ _ _ _ _ r7
        clear r7
        go_wp2_with fail
        exact ⟨⟨C', k + 1, _, _, _, _, _, by omega, by go_num, by rw [← HFQ.out, n2], HG2, hide (by rw [← HFQ.out]; exact n1)⟩, by simp [intOf]; omega⟩
      · refine gen_the fun W2 h2 => ?_
        have E2 : Hid (Ext wr W2) := hide (by rw [h2]; exact Ext.trans e1 (Tw.below (o := w1.heap.size) (row := none) ((((((Tw.of_ext EX _ _).trans (Tw.set_ _ _ _ _ _)).trans (Tw.set_ _ _ _ _ _)).trans (Tw.set_ _ _ _ _ _)).trans (Tw.set_ _ _ _ _ _)).trans (Tw.set_ _ _ _ _ _)) (Nat.le_refl _) (Nat.le_refl _) (fun g hg => by cases hg)))
        have HB2 : Hid (Blk W2 w1.heap.size 57 #[.int .i64 (k : Int), .int .i64 a, .int .i64 (bufT F.w a), .slice ldA F.loads.length ldc, .int .i64 F.before]) := hide (by rw [h2]; exact ((((b2.set_ 0 _).set_ 1 _).set_ 2 _).set_ 3 _).set_ 4 _)
        clear h2 EX e2 hX1 c1 hne c23 HASK HBUF b2 bc0 bc1 bc2 bc3 bc4 bf0 bf1 bf2 bf3 bf4
        generalize w1.heap.size = p at *
        have bc0 : W2.cell? ⟨p, 0, none⟩ = some (.int .i64 (k : Int)) := HB2.out.cell 0
        have bc1 : W2.cell? ⟨p, 1, none⟩ = some (.int .i64 a) := HB2.out.cell 1
        have bc2 : W2.cell? ⟨p, 2, none⟩ = some (.int .i64 (bufT F.w a)) := HB2.out.cell 2
        have bc3 : W2.cell? ⟨p, 3, none⟩ = some (.slice ldA F.loads.length ldc) := HB2.out.cell 3
        have bc4 : W2.cell? ⟨p, 4, none⟩ = some (.int .i64 F.before) := HB2.out.cell 4
        go_wp2_with fail
        refine (HPK.out _ (Ext.trans HF.out.ext E2.out) _ _ _ (HLD.out.ext E2.out)).mono ?_
        rintro e w3 ⟨⟨rn, rfl, hr, hg⟩, e3⟩
        have E3 := hide (Ext.trans E2.out e3)
        clear bc0 bc1 bc2 bc3 bc4 e3 HB2 E2 HPK
        have HG2 := hide (HGC.out (rn : Int) ⟨by omega, by omega⟩ hg)
        have hrN := HRN.out (rn : Int)
        obtain ⟨hFe, hae⟩ := HE.out (rn : Int)
        clear HGC HRN HE hg
        generalize C ++ [(rn : Int)] = C' at *
        have HAR := hide (fun W hW => HA.out C' HG2.out.2.1 W hW k hkl)
        obtain ⟨_, ht1, ht2⟩ := (HR.out C' HG2.out.2.1).comes k hkl (by rw [hFe]; exact HOK.out) (by rw [hFe]; exact hat) (by rw [hFe]; omega)
        have hzz : zN f0 s0 r0 L S (gvF C') av k = (S.getD rn []).getD k 0 := by unfold zN; rw [hrN]; rfl
        have HNX : Hid (folF f0 s0 r0 L S (gvF C') av (k + 1) = ⟨camT s0 r0 (L.getD k 0) (tN f0 s0 r0 L S (gvF C') av k) (decide (k + 1 = L.length)) F.w, F.loads ++ [(zN f0 s0 r0 L S (gvF C') av k, tN f0 s0 r0 L S (gvF C') av k - a)], F.ch ++ [(rn : Int)], F.asd ++ [a], F.arr ++ [tN f0 s0 r0 L S (gvF C') av k], (rn : Int)⟩) := hide (by rw [fol_next, hFe, hae, hrN])
        rw [hae] at ht1 ht2 HAR
        clear hFe hae hrN
        generalize hFq : folF f0 s0 r0 L S (gvF C') av (k + 1) = F' at *
        have HFQ := hide hFq.symm
        clear hFq
        generalize zN f0 s0 r0 L S (gvF C') av k = z at *
        generalize tN f0 s0 r0 L S (gvF C') av k = t at *
        obtain ⟨hz1, hz2⟩ : 0 ≤ z ∧ z ≤ 1000000000 := by rw [hzz]; exact HSZ.out _ _
        have HCM : Hid (∀ W (ch asd arr st ld : Value), RndA w W lA ln lc sA sn sc qA qn qc d0 s0 r0 f0 i0 k0 l0 t0 lo0 hi0 a0 x0 y0 z0 ch asd arr st ld F → Calls Tryd.prog 31 #[.pointer (some ⟨(w.heap.size + 1 + 1 + 1), 0, none⟩), .int .i64 (k : Int), .int .i64 t] W (CamGives W (w.heap.size + 1 + 1 + 1) (w.heap.size + 1 + 1 + 1 + 1) lA ln lc sA sn sc qA qn qc d0 s0 r0 f0 i0 k0 l0 t0 lo0 hi0 a0 x0 y0 z0 ch asd arr st ld 0 (camT s0 r0 (L.getD k 0) t (decide (k + 1 = L.length)) F.w))) := hide (fun W ch asd arr st ld h => came_any h.fol.blk (HSS.out.longs.ext h.ext) hlt ⟨hat, by omega⟩ ⟨hb0, by omega⟩ ⟨hx1, hx2⟩ ⟨by omega, by omega⟩ HLG.out h.fol.o4 h.fol.gB (Nat.succ_le_of_lt h.fol.blk.lt) HSTL.out HOK.out)
        have HNX2 : Hid (∀ W (ch asd arr st ld : Value), RndA w W lA ln lc sA sn sc qA qn qc d0 s0 r0 f0 i0 k0 l0 t0 lo0 hi0 a0 x0 y0 z0 ch asd arr st ld ⟨camT s0 r0 (L.getD k 0) t (decide (k + 1 = L.length)) F.w, F.loads ++ [(z, t - a)], F.ch ++ [(rn : Int)], F.asd ++ [a], F.arr ++ [t], F.before⟩ → RndA w W lA ln lc sA sn sc qA qn qc d0 s0 r0 f0 i0 k0 l0 t0 lo0 hi0 a0 x0 y0 z0 ch asd arr st ld F' ∧ F'.before = (rn : Int)) := hide (fun W ch asd arr st ld h => by
          rw [HNX.out]
          exact ⟨⟨⟨h.fol.blk, h.fol.o1, h.fol.o2, h.fol.o3, h.fol.o4, h.fol.o5, h.fol.ap, h.fol.gB⟩, h.shw, h.ses, h.ext⟩, rfl⟩)
        have hrow : (S.getD rn []).length = L.length := HROW.out _ (by omega)
        have hrs : rn < sn := by have := HSS.out.sizes.len; omega
        obtain ⟨bs, os, rfl⟩ := HSS.out.sizes.addr (by omega)
        obtain ⟨rA, rl, rc, hq0, hq1⟩ := HSS.out.sizes.row hrs
        have hrl := hq1.len
        obtain ⟨br, orr, rfl, _⟩ := hq1.addr (by omega)
        have hq2 := hq1.num (k := k) (by omega)
        rw [← hzz] at hq2
        have i1 : (k : Int) < (rl : Int) := by omega
        have i3 : (0 : Int) ≤ (rn : Int) := by omega
        have i4 : (rn : Int) < (sn : Int) := by omega
        clear hr HROW hrow hzz hq1 hrl HNX HR HA HSZ
        have R3 := hide (HF.out.ext' E3.out)
        have s1 : w3.cell? ⟨w.heap.size, 1, none⟩ = some (.slice (some ⟨bs, os, none⟩) sn sc) := R3.out.shw.cell 1
        have s2 := R3.out.ext.cell hq0
        have s3 := R3.out.ext.cell hq2
        go_wp2_with fail
        refine (HAR.out _ R3.out.ext).mono ?_
        rintro e w4 ⟨rfl, e4⟩
        have R4 := hide (R3.out.ext' e4)
        clear s1 s2 s3 e4 E3 R3 HAR HLD HF hq0 hq2
        go_wp2_with fail
        refine (HCM.out _ _ _ _ _ _ R4.out).mono ?_
        intro e w5 hcm
        obtain ⟨st', rfl, r5⟩ := R4.out.came hcm
        have R5 := hide r5
        clear hcm r5 R4 HCM
        have hwt : IntKind.i64.wrap (t - a) = t - a := by rw [IntKind.wrap_i64]; omega
        have l4 : w5.cell? ⟨(w.heap.size + 1 + 1 + 1), 23, none⟩ = some (.slice ldA F.loads.length ldc) := R5.out.fol.blk.cell 23
        have N4 := hide (At.pair1 w5 z (t - a) 81)
        go_wp2_with (at_builtin; go_loud (refine wpList_append_at _ rfl (.tmp 63) (.tmp 69) 55 rfl (w.heap.size + 1 + 1 + 1 + 1) 81 iH _ 16 Tryd.underlying55 hiH hu0 hu1 hu2 rfl (by omega) len_e2 one_e2 _ F.loads rfl (R5.out.fol.o5.ext (Ext.alloc _ _)) (some ⟨w5.heap.size, 0, none⟩) 1 1 [(z, t - a)] rfl N4.out ?b1 ?b2 ?b3 ?_))
        case b1 => have := HLN.out; unfold maxLen; omega
        case b2 => have := HLN.out; omega
        case b3 => have := R5.out.fol.blk.lt; first | omega | (rw [World.size_alloc]; omega)
        intro vv wq o7 g7 _ hob
        obtain ⟨r7, b7⟩ := R5.out.app4 o7 g7 (by rw [World.size_alloc]; exact hob)
        obtain ⟨A7, c7, hvv, _⟩ := o7.at_ len_e2
        subst hvv
        rw [show (F.loads ++ [(z, t - a)]).length = F.loads.length + 1 from List.length_append] at r7
        have l7 : wq.cell? ⟨(w.heap.size + 1 + 1 + 1), 23, none⟩ = some (.slice ldA F.loads.length ldc) := b7.cell 23
        have f7 := b7.frozen 23
        clear o7 g7 hob b7 l4 N4
        go_upto_region 13 with (fail)
        refine gen_wpC fun w6 h6 => ?_
        have R6 := hide (show RndA w w6 _ _ _ _ _ _ _ _ _ _ _ _ _ _ _ _ _ _ _ _ _ _ _ _ _ _ _ _ _ from by rw [h6]; exact r7)
        clear h6 r7 l7 f7 R5
        obtain ⟨A0, c0, rfl, _⟩ := R6.out.fol.o1.at_ len_e64
        have l0 : w6.cell? ⟨(w.heap.size + 1 + 1 + 1), 17, none⟩ = some (.slice A0 F.ch.length c0) := R6.out.fol.blk.cell 17
        have N0 := hide (At.new1 (enc := e64) w6 (rn : Int) (.int .i64 (rn : Int)) rfl 3)
        go_wp2_with (at_builtin; go_loud (refine wpList_append_at _ rfl (.tmp 78) (.tmp 80) 22 rfl (w.heap.size + 1 + 1 + 1 + 1) 3 iI _ 8 Tryd.underlying22 hiI hy0 hy1 hy2 rfl (by omega) len_e64 one_e64 _ F.ch rfl (R6.out.fol.o1.ext (Ext.alloc _ _)) (some ⟨w6.heap.size, 0, none⟩) 1 1 [(rn : Int)] rfl N0.out ?b1 ?b2 ?b3 ?_))
        case b1 => have := HLN.out; unfold maxLen; omega
        case b2 => have := HLN.out; omega
        case b3 => have := R6.out.fol.blk.lt; first | omega | (rw [World.size_alloc]; omega)
        intro vv wq o7 g7 _ hob
        obtain ⟨r7, b7⟩ := R6.out.app0 o7 g7 (by rw [World.size_alloc]; exact hob)
        obtain ⟨A7, c7, hvv, _⟩ := o7.at_ len_e64
        subst hvv
        rw [show (F.ch ++ [(rn : Int)]).length = F.ch.length + 1 from List.length_append] at r7
        have l7 : wq.cell? ⟨(w.heap.size + 1 + 1 + 1), 17, none⟩ = some (.slice A0 F.ch.length c0) := b7.cell 17
        have f7 := b7.frozen 17
        clear o7 g7 hob b7 l0 N0
        go_upto_region 14 with (fail)
        refine gen_wpC fun w7 h6 => ?_
        have R7 := hide (show RndA w w7 _ _ _ _ _ _ _ _ _ _ _ _ _ _ _ _ _ _ _ _ _ _ _ _ _ _ _ _ _ from by rw [h6]; exact r7)
        clear h6 r7 l7 f7 R6
        obtain ⟨A1, c1, rfl, _⟩ := R7.out.fol.o2.at_ len_e64
        have l1 : w7.cell? ⟨(w.heap.size + 1 + 1 + 1), 18, none⟩ = some (.slice A1 F.asd.length c1) := R7.out.fol.blk.cell 18
        have N1 := hide (At.new1 (enc := e64) w7 a (.int .i64 a) rfl 3)
        go_wp2_with (at_builtin; go_loud (refine wpList_append_at _ rfl (.tmp 90) (.tmp 92) 22 rfl (w.heap.size + 1 + 1 + 1 + 1) 3 iI _ 8 Tryd.underlying22 hiI hy0 hy1 hy2 rfl (by omega) len_e64 one_e64 _ F.asd rfl (R7.out.fol.o2.ext (Ext.alloc _ _)) (some ⟨w7.heap.size, 0, none⟩) 1 1 [a] rfl N1.out ?b1 ?b2 ?b3 ?_))
        case b1 => have := HLN.out; unfold maxLen; omega
        case b2 => have := HLN.out; omega
        case b3 => have := R7.out.fol.blk.lt; first | omega | (rw [World.size_alloc]; omega)
        intro vv wq o7 g7 _ hob
        obtain ⟨r7, b7⟩ := R7.out.app1 o7 g7 (by rw [World.size_alloc]; exact hob)
        obtain ⟨A7, c7, hvv, _⟩ := o7.at_ len_e64
        subst hvv
        rw [show (F.asd ++ [a]).length = F.asd.length + 1 from List.length_append] at r7
        have l7 : wq.cell? ⟨(w.heap.size + 1 + 1 + 1), 18, none⟩ = some (.slice A1 F.asd.length c1) := b7.cell 18
        have f7 := b7.frozen 18
        clear o7 g7 hob b7 l1 N1
        go_upto_region 15 with (fail)
        refine gen_wpC fun w8 h6 => ?_
        have R8 := hide (show RndA w w8 _ _ _ _ _ _ _ _ _ _ _ _ _ _ _ _ _ _ _ _ _ _ _ _ _ _ _ _ _ from by rw [h6]; exact r7)
        clear h6 r7 l7 f7 R7
        obtain ⟨A2, c2, rfl, _⟩ := R8.out.fol.o3.at_ len_e64
        have l2 : w8.cell? ⟨(w.heap.size + 1 + 1 + 1), 19, none⟩ = some (.slice A2 F.arr.length c2) := R8.out.fol.blk.cell 19
        have N2 := hide (At.new1 (enc := e64) w8 t (.int .i64 t) rfl 3)
        go_wp2_with (at_builtin; go_loud (refine wpList_append_at _ rfl (.tmp 102) (.tmp 104) 22 rfl (w.heap.size + 1 + 1 + 1 + 1) 3 iI _ 8 Tryd.underlying22 hiI hy0 hy1 hy2 rfl (by omega) len_e64 one_e64 _ F.arr rfl (R8.out.fol.o3.ext (Ext.alloc _ _)) (some ⟨w8.heap.size, 0, none⟩) 1 1 [t] rfl N2.out ?b1 ?b2 ?b3 ?_))
        case b1 => have := HLN.out; unfold maxLen; omega
        case b2 => have := HLN.out; omega
        case b3 => have := R8.out.fol.blk.lt; first | omega | (rw [World.size_alloc]; omega)
        intro vv wq o7 g7 _ hob
        obtain ⟨r7, b7⟩ := R8.out.app2 o7 g7 (by rw [World.size_alloc]; exact hob)
        obtain ⟨A7, c7, hvv, _⟩ := o7.at_ len_e64
        subst hvv
        rw [show (F.arr ++ [t]).length = F.arr.length + 1 from List.length_append] at r7
        have l7 : wq.cell? ⟨(w.heap.size + 1 + 1 + 1), 19, none⟩ = some (.slice A2 F.arr.length c2) := b7.cell 19
        have f7 := b7.frozen 19
        clear o7 g7 hob b7 l2 N2
        obtain ⟨n1, n2⟩ := HNX2.out _ _ _ _ _ _ r7
        clear r7
        go_wp2_with fail
        exact ⟨⟨C', k + 1, _, _, _, _, _, by omega, by go_num, by rw [← HFQ.out, n2], HG2, hide (by rw [← HFQ.out]; exact n1)⟩, by simp [intOf]; omega⟩
    have hkn : k = ln := by omega
    subst hkn
    have HFL1 := HFL.out C k
    obtain ⟨hok, hat, hsum, hbf⟩ := (HR.out C HC.out.2.1).all k (by omega)
    have hD0 := (HR.out C HC.out.2.1).d0
    have hM0 := (HR.out C HC.out.2.1).m0
    have hkD : (k : Int) * D ≤ 200 * D := Int.mul_le_mul_of_nonneg_right (by omega) hD0
    have hb0 := hok.1
    clear HP HA HFL HR HROW HSZ hok
    have hLk : L.length = k := HLL
    generalize hF : folF f0 s0 r0 L S (gvF C) av k = F at *
    have HFk := hide hF
    clear hF
    obtain ⟨hl1, hl2, hl3, hl4, hl5⟩ := HFL1
    have HLN := hide (And.intro hl1 (And.intro hl2 (And.intro hl3 hl5)))
    clear hl1 hl2 hl3 hl4 hl5
    have B0 := hide HF.out.fol.blk
    have c24 := B0.out.cell 24
    have c25 := B0.out.cell 25
    have c22 := B0.out.cell 22
    have f22 := B0.out.frozen 22
    have v1 : IntKind.i64.wrap (F.w.at_ + F.w.buf) = F.w.at_ + F.w.buf := by rw [IntKind.wrap_i64]; omega
    have j0 : ¬ (k : Int) < (k : Int) := by omega
    go_wp2_with fail
    go_region
    refine gen_the fun W1 h1 => ?_
    have T1 : Tw wr W1 (w.heap.size + 1 + 1 + 1) none := by rw [h1]; (repeat' (first | (with_reducible exact Tw.refl _ _ _) | (with_reducible refine Tw.drew ?_) | (with_reducible refine Tw.drewN ?_ _) | (with_reducible refine Tw.trans ?_ (Tw.set_ _ _ _ _ _))))
    have B1 : Blk W1 (w.heap.size + 1 + 1 + 1) 77 #[.slice lA k lc, .slice sA sn sc, .slice qA qn qc, .int .i64 d0, .int .i64 s0, .int .i64 r0, .int .i64 f0, .int .i64 i0, .int .i64 k0, .int .i64 l0, .int .i64 t0, .int .i64 lo0, .int .i64 hi0, .int .i64 a0, .int .i64 x0, .int .i64 y0, .int .i64 z0, ch, asd, arr, .int .i64 F.w.beg, st, .int .i64 (F.w.at_ + F.w.buf), ld, .int .i64 F.w.at_, .int .i64 F.w.buf, .bool F.w.plays, .bool F.w.begun, .int .i64 F.w.stalled] := by rw [h1]; first | exact B0.out.set_ 22 _ | exact B0.out.drew.set_ 22 _
    have S1 := T1.blk HF.out.ses (by omega) (by simp)
    have X1 := Below.trans HF.out.ext (T1.below HF.out.ext.size (by omega) (fun b hb => by cases hb))
    have o1 := HF.out.fol.o1.tw T1 (fun e => by have := (HF.out.fol.lt 0 _ e).1; omega) (fun _ _ h => by cases h)
    have o2 := HF.out.fol.o2.tw T1 (fun e => by have := (HF.out.fol.lt 1 _ e).1; omega) (fun _ _ h => by cases h)
    have o3 := HF.out.fol.o3.tw T1 (fun e => by have := (HF.out.fol.lt 2 _ e).1; omega) (fun _ _ h => by cases h)
    have o4 := HF.out.fol.o4.tw T1 (fun e => by have := (HF.out.fol.lt 3 _ e).1; omega) (fun _ _ h => by cases h)
    obtain ⟨A0, c0, rfl, a0⟩ := o1.at_ len_e64
    obtain ⟨A1, c1, rfl, a1⟩ := o2.at_ len_e64
    obtain ⟨A2, c2, rfl, a2⟩ := o3.at_ len_e64
    obtain ⟨A3, c3, rfl, a3⟩ := o4.at_ len_e2
    have HA := hide (And.intro o1 (And.intro o2 (And.intro o3 o4)))
    clear o1 o2 o3 o4 h1 c24 c25 c22 f22 v1
    have c17 := B1.cell 17
    have c18 := B1.cell 18
    have c19 := B1.cell 19
    have c20 := B1.cell 20
    have c21 := B1.cell 21
    have c22 := B1.cell 22
    have ss0 := S1.cell 0
    have tt0 := S1.frozen 0
    have ss1 := S1.cell 1
    have tt1 := S1.frozen 1
    have ss2 := S1.cell 2
    have tt2 := S1.frozen 2
    have ss3 := S1.cell 3
    have tt3 := S1.frozen 3
    have ss4 := S1.cell 4
    have tt4 := S1.frozen 4
    have ss5 := S1.cell 5
    have tt5 := S1.frozen 5
    have HS1 := hide S1
    have HX1 := hide X1
    clear S1 X1 a0 a1 a2 a3 B1 T1 HF B0
    go_wp2_with fail
    refine gen_bod fun W9 h9 => ?_
    have S9 : Blk W9 (w.heap.size + 1 + 1) 38 #[.slice A0 F.ch.length c0, .slice A1 F.asd.length c1, .slice A2 F.arr.length c2, .int .i64 F.w.beg, .slice A3 F.w.stalls.length c3, .int .i64 (F.w.at_ + F.w.buf)] := by rw [h9]; exact (((((HS1.out.set_ 0 _).set_ 1 _).set_ 2 _).set_ 3 _).set_ 4 _).set_ 5 _
    have T9 : Tw W1 W9 (w.heap.size + 1 + 1) none := by rw [h9]; (repeat' (first | (with_reducible exact Tw.refl _ _ _) | (with_reducible refine Tw.trans ?_ (Tw.set_ _ _ _ _ _))))
    clear h9
    have k0' := S9.cell 0
    have k1' := S9.cell 1
    have k2' := S9.cell 2
    have k3' := S9.cell 3
    have k4' := S9.cell 4
    have k5' := S9.cell 5
    have X9 := Below.trans HX1.out (T9.below HX1.out.size (by omega) (fun b hb => by cases hb))
    rw [show L.length = k from hLk]
    refine bodyPost_ret (v := .agg #[.slice A0 F.ch.length c0, .slice A1 F.asd.length c1, .slice A2 F.arr.length c2, .int .i64 F.w.beg, .slice A3 F.w.stalls.length c3, .int .i64 (F.w.at_ + F.w.buf)]) (by simp [results, Tryd.results12, go_sem, k0', k1', k2', k3', k4', k5']) rfl ⟨C, HC.out.1, HC.out.2.1, HC.out.2.2, ?_⟩
    rw [HFk.out]
    refine ⟨_, rfl, ⟨A0, c0, A1, c1, A2, c2, A3, c3, rfl, ?_, ?_, ?_, ?_, ?_⟩, ⟨HLN.out.1, HLN.out.2.1, HLN.out.2.2.1, HLN.out.2.2.2⟩, X9⟩
    · exact (HA.out.1.tw T9 (fun e => by have := (HA.out.1.lt _ e).1; omega) (fun _ _ h => by cases h)).atS len_e64
    · exact (HA.out.2.1.tw T9 (fun e => by have := (HA.out.2.1.lt _ e).1; omega) (fun _ _ h => by cases h)).atS len_e64
    · exact (HA.out.2.2.1.tw T9 (fun e => by have := (HA.out.2.2.1.lt _ e).1; omega) (fun _ _ h => by cases h)).atS len_e64
    · exact (HA.out.2.2.2.tw T9 (fun e => by have := (HA.out.2.2.2.lt _ e).1; omega) (fun _ _ h => by cases h)).atS len_e2
    · rintro a (rfl | rfl | rfl | rfl)
      · have := (HA.out.1.lt _ rfl).1; omega
      · have := (HA.out.2.1.lt _ rfl).1; omega
      · have := (HA.out.2.2.1.lt _ rfl).1; omega
      · have := (HA.out.2.2.2.lt _ rfl).1; omega
end
end Go.Proofs.YtfelgolfebhmkaaDoor
