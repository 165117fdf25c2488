/- Walks: planner.from and byLook come to an end, and the rendition is one. Conditions as stated. -/
import Derived.Test.YtfelgolfebhmkaaDoorMtm32
namespace Go.Proofs.YtfelgolfebhmkaaDoor
open Go.RowKit
section
variable {lA : Option Addr} {ln lc : Nat} {sA : Option Addr} {sn sc : Nat} {qA : Option Addr} {qn qc : Nat} {L : List Int} {S : List (List Int)} {Q : List Int} {d0 s0 r0 f0 i0 k0 l0 t0 lo0 hi0 a0 x0 y0 z0 : Int} {nx tm bu bf : Int} {ldA : Option Addr} {ldn ldc : Nat} {w : World} {G : Nat} {en bi lg : Int}
set_option maxRecDepth 1000000 in
set_option maxHeartbeats 16000000 in
theorem from_step (h : Shw w lA ln lc sA sn sc qA qn qc L S Q) (ok : FilmOk L S Q) {n b f : Nat} {x v : Int} {W : World} {be : Int} {fi : Nat} {fo : Bool} (hn1 : n < ln) (hne : (n : Int) ≠ en) (hb : b < sn) (hf : f < sn) (hfi : fi < sn) (hX : Ext w W) (hB : Blk W G 102 #[.slice lA ln lc, .slice sA sn sc, .slice qA qn qc, .int .i64 d0, .int .i64 s0, .int .i64 r0, .int .i64 f0, .int .i64 i0, .int .i64 k0, .int .i64 l0, .int .i64 t0, .int .i64 lo0, .int .i64 hi0, .int .i64 a0, .int .i64 x0, .int .i64 y0, .int .i64 z0, .int .i64 nx, .int .i64 en, .int .i64 bi, .int .i64 lg, .int .i64 be, .int .i64 (fi : Int), .bool fo])
    (hIH : ∀ (b f : Nat) (x v : Int) (W : World) (be : Int) (fi : Nat) (fo : Bool), b < sn → f < sn → fi < sn → Ext w W → Blk W G 102 #[.slice lA ln lc, .slice sA sn sc, .slice qA qn qc, .int .i64 d0, .int .i64 s0, .int .i64 r0, .int .i64 f0, .int .i64 i0, .int .i64 k0, .int .i64 l0, .int .i64 t0, .int .i64 lo0, .int .i64 hi0, .int .i64 a0, .int .i64 x0, .int .i64 y0, .int .i64 z0, .int .i64 nx, .int .i64 en, .int .i64 bi, .int .i64 lg, .int .i64 be, .int .i64 (fi : Int), .bool fo] → Calls Tryd.prog 49 #[.pointer (some ⟨G, 0, none⟩), .int .i64 ((n : Int) + 1), .int .i64 (b : Int), .int .i64 x, .int .i64 v, .int .i64 (f : Int)] W (FrmGives w G lA ln lc sA sn sc qA qn qc d0 s0 r0 f0 i0 k0 l0 t0 lo0 hi0 a0 x0 y0 z0 nx en bi lg)) :
    Calls Tryd.prog 49 #[.pointer (some ⟨G, 0, none⟩), .int .i64 (n : Int), .int .i64 (b : Int), .int .i64 x, .int .i64 v, .int .i64 (f : Int)] W (FrmGives w G lA ln lc sA sn sc qA qn qc d0 s0 r0 f0 i0 k0 l0 t0 lo0 hi0 a0 x0 y0 z0 nx en bi lg) := by
  have hlen := h.longs.len
  have hsl := h.sizes.len
  have hql := h.qual.len
  have hqs := ok.q
  have hsn := ok.s1
  have hl2 := ok.l1
  have e0 : ((n : Int) == en) = false := by rw [beq_eq_false_iff_ne]; exact hne
  have HIH := hide hIH
  clear hIH
  have HSR := hide ok.sr
  have HSL := hide ok.sl
  have HH := hide h
  have HX := hide hX
  have HB := hide hB
  clear h ok hX hB
  obtain ⟨bl, ol, rfl, _⟩ := HH.out.longs.addr (by omega)
  obtain ⟨bs, os, rfl⟩ := HH.out.sizes.addr (by omega)
  obtain ⟨bq, oq, rfl, _⟩ := HH.out.qual.addr (by omega)
  have in0 : (0 : Int) ≤ (n : Int) := by omega
  have i1 : (n : Int) < (ln : Int) := by omega
  have i2 : (0 : Int) ≤ (b : Int) := by omega
  have i3 : (b : Int) < (qn : Int) := by omega
  have wn : IntKind.i64.wrap ((n : Int) + 1) = ((n + 1 : Nat) : Int) := by rw [IntKind.wrap_i64]; omega
  have c18 : W.cell? ⟨G, 18, none⟩ = some (.int .i64 en) := HB.out.cell 18
  have c1 : W.cell? ⟨G, 1, none⟩ = some (.slice (some ⟨bs, os, none⟩) sn sc) := HB.out.cell 1
  go_enter Tryd.func49, Tryd.ntmps49
  go_wp2_with fail
  go_loopw [53] (fun ri wr => ∃ (k : Nat) (be : Int) (fi : Nat) (fo : Bool), k ≤ sn ∧ ri = .int .i64 k ∧ fi < sn ∧ Hid (Ext w wr) ∧ Hid (Blk wr G 102 #[.slice (some ⟨bl, ol, none⟩) ln lc, .slice (some ⟨bs, os, none⟩) sn sc, .slice (some ⟨bq, oq, none⟩) qn qc, .int .i64 d0, .int .i64 s0, .int .i64 r0, .int .i64 f0, .int .i64 i0, .int .i64 k0, .int .i64 l0, .int .i64 t0, .int .i64 lo0, .int .i64 hi0, .int .i64 a0, .int .i64 x0, .int .i64 y0, .int .i64 z0, .int .i64 nx, .int .i64 en, .int .i64 bi, .int .i64 lg, .int .i64 be, .int .i64 (fi : Int), .bool fo])) (fun ri _ => sn - (intOf ri).toNat)
  case atStart => exact ⟨0, be, fi, fo, by omega, rfl, hfi, HX, HB⟩
  case round =>
    clear c18 c1 HX HB hfi
    obtain ⟨k, be, fi, fo, hk, rfl, hfi, HX, HB⟩ := hrel
    by_cases hlt : k < sn
    · obtain ⟨rA, rl, rc, hq0, hq1⟩ := HH.out.sizes.row hlt
      have hrl := hq1.len
      have hrow := HSL.out k (by omega)
      obtain ⟨br, orr, rfl, _⟩ := hq1.addr (by omega)
      have hq2 := hq1.num (k := n) (by omega)
      have hz := HSR.out k (by omega) n (by omega)
      generalize (S.getD k []).getD n 0 = z at *
      have j0 : (0 : Int) ≤ (k : Int) := by omega
      have j1 : (k : Int) < (sn : Int) := by omega
      have j2 : (n : Int) < (rl : Int) := by omega
      have j3 : (k : Int) < (qn : Int) := by omega
      have HT := hide (fun (W : World) (hB : Blk W G 102 #[.slice (some ⟨bl, ol, none⟩) ln lc, .slice (some ⟨bs, os, none⟩) sn sc, .slice (some ⟨bq, oq, none⟩) qn qc, .int .i64 d0, .int .i64 s0, .int .i64 r0, .int .i64 f0, .int .i64 i0, .int .i64 k0, .int .i64 l0, .int .i64 t0, .int .i64 lo0, .int .i64 hi0, .int .i64 a0, .int .i64 x0, .int .i64 y0, .int .i64 z0, .int .i64 nx, .int .i64 en, .int .i64 bi, .int .i64 lg, .int .i64 be, .int .i64 (fi : Int), .bool fo]) => takes_some (z := z) ⟨by omega, by omega⟩ hB)
      have HQ0 := hide hq0
      have HQ1 := hide hq2
      have HL0 := hide (HH.out.longs.num hn1)
      have HQK := hide (HH.out.qual.num (k := k) (by omega))
      have HQB := hide (HH.out.qual.num (k := b) (by omega))
      have r0' := HX.out.cell hq0
      have r1' := HX.out.cell hq2
      have l0' := HX.out.cell (HH.out.longs.num hn1)
      have q0' := HX.out.cell (HH.out.qual.num (k := k) (by omega))
      have q1' := HX.out.cell (HH.out.qual.num (k := b) (by omega))
      generalize L.getD n 0 = yl at *
      generalize Q.getD k 0 = yq at *
      generalize Q.getD b 0 = yb at *
      clear hq0 hq1 hq2 hrow hrl
      have g0 : wr.cell? ⟨G, 0, none⟩ = some (.slice (some ⟨bl, ol, none⟩) ln lc) := HB.out.cell 0
      have g1 : wr.cell? ⟨G, 1, none⟩ = some (.slice (some ⟨bs, os, none⟩) sn sc) := HB.out.cell 1
      have g2 : wr.cell? ⟨G, 2, none⟩ = some (.slice (some ⟨bq, oq, none⟩) qn qc) := HB.out.cell 2
      have g14 : wr.cell? ⟨G, 14, none⟩ = some (.int .i64 x0) := HB.out.cell 14
      have g15 : wr.cell? ⟨G, 15, none⟩ = some (.int .i64 y0) := HB.out.cell 15
      have g17 : wr.cell? ⟨G, 17, none⟩ = some (.int .i64 nx) := HB.out.cell 17
      have HND := hide (fun (bg : Nat) (hbg : bg < sn) => hbg)
      clear HND
      by_cases hnx : (n : Int) = nx
      · have e1 : ((n : Int) == nx) = true := by simp [hnx]
        clear hnx
        go_wp2_with fail
        refine (HT.out _ HB.out).mono ?_
        rintro e w1 ⟨⟨q, rfl⟩, x1⟩
        have B1 := hide (HB.out.ext x1)
        have X1 := hide (Ext.trans HX.out x1)
        clear x1 HB HX
        clear g0 g1 g2 g14 g15 g17 r0' r1' l0' q0' q1'
        have g0 : w1.cell? ⟨G, 0, none⟩ = some (.slice (some ⟨bl, ol, none⟩) ln lc) := B1.out.cell 0
        have g1 : w1.cell? ⟨G, 1, none⟩ = some (.slice (some ⟨bs, os, none⟩) sn sc) := B1.out.cell 1
        have g2 : w1.cell? ⟨G, 2, none⟩ = some (.slice (some ⟨bq, oq, none⟩) qn qc) := B1.out.cell 2
        have g14 : w1.cell? ⟨G, 14, none⟩ = some (.int .i64 x0) := B1.out.cell 14
        have g15 : w1.cell? ⟨G, 15, none⟩ = some (.int .i64 y0) := B1.out.cell 15
        have g17 : w1.cell? ⟨G, 17, none⟩ = some (.int .i64 nx) := B1.out.cell 17
        have r0' := X1.out.cell HQ0.out
        have r1' := X1.out.cell HQ1.out
        have l0' := X1.out.cell HL0.out
        have q0' := X1.out.cell HQK.out
        have q1' := X1.out.cell HQB.out
        go_wp2_with fail
        go_quiet (fail)
        go_wp2_with fail
        refine gen_wpC fun w2 h2 => ?_
        have x2 : Ext w1 w2 := by rw [h2]; exact (by repeat' (first | (with_reducible first | exact Below.refl _ _ | assumption | refine below_drewN ?_ _ | refine Below.drew ?_ | refine ext_alloc ?_ _ | refine Below.setCell ?_ ?_ _) | go_size))
        have B2 := hide (B1.out.ext x2)
        have X2 := hide (Ext.trans X1.out x2)
        clear x2 h2 B1 X1
        clear g0 g1 g2 g14 g15 g17 r0' r1' l0' q0' q1'
        have g0 : w2.cell? ⟨G, 0, none⟩ = some (.slice (some ⟨bl, ol, none⟩) ln lc) := B2.out.cell 0
        have g1 : w2.cell? ⟨G, 1, none⟩ = some (.slice (some ⟨bs, os, none⟩) sn sc) := B2.out.cell 1
        have g2 : w2.cell? ⟨G, 2, none⟩ = some (.slice (some ⟨bq, oq, none⟩) qn qc) := B2.out.cell 2
        have g14 : w2.cell? ⟨G, 14, none⟩ = some (.int .i64 x0) := B2.out.cell 14
        have g15 : w2.cell? ⟨G, 15, none⟩ = some (.int .i64 y0) := B2.out.cell 15
        have g17 : w2.cell? ⟨G, 17, none⟩ = some (.int .i64 nx) := B2.out.cell 17
        have r0' := X2.out.cell HQ0.out
        have r1' := X2.out.cell HQ1.out
        have l0' := X2.out.cell HL0.out
        have q0' := X2.out.cell HQK.out
        have q1' := X2.out.cell HQB.out
        go_quiet (fail)
        go_wp2_with fail
        clear g0 g1 g2 g14 g15 g17 r0' r1' l0' q0' q1'
        have x3 : Ext w2 (w2.drewN nq) := (by repeat' (first | (with_reducible first | exact Below.refl _ _ | assumption | refine below_drewN ?_ _ | refine Below.drew ?_ | refine ext_alloc ?_ _ | refine Below.setCell ?_ ?_ _) | go_size))
        refine (HIH.out k k _ _ _ be fi fo hlt (by omega) hfi (Ext.trans X2.out x3) (B2.out.ext x3)).mono ?_
        rintro e w5 ⟨rfl, x5, be', fi', fo', hfi', b5⟩
        have B5 := hide b5
        have X5 := hide x5
        clear b5 x5 x3 B2 X2 HIH HT
        go_wp2_with fail
        go_roundw
        case rel => exact ⟨k + 1, be', fi', fo', by omega, by go_num, hfi', X5, B5⟩
        case measure => simp [intOf]; omega
      · have e1 : ((n : Int) == nx) = false := by simp [hnx]
        clear hnx
        go_wp2_with fail
        refine (HT.out _ HB.out).mono ?_
        rintro e w1 ⟨⟨q, rfl⟩, x1⟩
        have B1 := hide (HB.out.ext x1)
        have X1 := hide (Ext.trans HX.out x1)
        clear x1 HB HX
        clear g0 g1 g2 g14 g15 g17 r0' r1' l0' q0' q1'
        have g0 : w1.cell? ⟨G, 0, none⟩ = some (.slice (some ⟨bl, ol, none⟩) ln lc) := B1.out.cell 0
        have g1 : w1.cell? ⟨G, 1, none⟩ = some (.slice (some ⟨bs, os, none⟩) sn sc) := B1.out.cell 1
        have g2 : w1.cell? ⟨G, 2, none⟩ = some (.slice (some ⟨bq, oq, none⟩) qn qc) := B1.out.cell 2
        have g14 : w1.cell? ⟨G, 14, none⟩ = some (.int .i64 x0) := B1.out.cell 14
        have g15 : w1.cell? ⟨G, 15, none⟩ = some (.int .i64 y0) := B1.out.cell 15
        have g17 : w1.cell? ⟨G, 17, none⟩ = some (.int .i64 nx) := B1.out.cell 17
        have r0' := X1.out.cell HQ0.out
        have r1' := X1.out.cell HQ1.out
        have l0' := X1.out.cell HL0.out
        have q0' := X1.out.cell HQK.out
        have q1' := X1.out.cell HQB.out
        go_wp2_with fail
        go_quiet (fail)
        go_wp2_with fail
        refine gen_wpC fun w2 h2 => ?_
        have x2 : Ext w1 w2 := by rw [h2]; exact (by repeat' (first | (with_reducible first | exact Below.refl _ _ | assumption | refine below_drewN ?_ _ | refine Below.drew ?_ | refine ext_alloc ?_ _ | refine Below.setCell ?_ ?_ _) | go_size))
        have B2 := hide (B1.out.ext x2)
        have X2 := hide (Ext.trans X1.out x2)
        clear x2 h2 B1 X1
        clear g0 g1 g2 g14 g15 g17 r0' r1' l0' q0' q1'
        have g0 : w2.cell? ⟨G, 0, none⟩ = some (.slice (some ⟨bl, ol, none⟩) ln lc) := B2.out.cell 0
        have g1 : w2.cell? ⟨G, 1, none⟩ = some (.slice (some ⟨bs, os, none⟩) sn sc) := B2.out.cell 1
        have g2 : w2.cell? ⟨G, 2, none⟩ = some (.slice (some ⟨bq, oq, none⟩) qn qc) := B2.out.cell 2
        have g14 : w2.cell? ⟨G, 14, none⟩ = some (.int .i64 x0) := B2.out.cell 14
        have g15 : w2.cell? ⟨G, 15, none⟩ = some (.int .i64 y0) := B2.out.cell 15
        have g17 : w2.cell? ⟨G, 17, none⟩ = some (.int .i64 nx) := B2.out.cell 17
        have r0' := X2.out.cell HQ0.out
        have r1' := X2.out.cell HQ1.out
        have l0' := X2.out.cell HL0.out
        have q0' := X2.out.cell HQK.out
        have q1' := X2.out.cell HQB.out
        go_quiet (fail)
        go_wp2_with fail
        clear g0 g1 g2 g14 g15 g17 r0' r1' l0' q0' q1'
        have x3 : Ext w2 (w2.drewN nq) := (by repeat' (first | (with_reducible first | exact Below.refl _ _ | assumption | refine below_drewN ?_ _ | refine Below.drew ?_ | refine ext_alloc ?_ _ | refine Below.setCell ?_ ?_ _) | go_size))
        refine (HIH.out k f _ _ _ be fi fo hlt (by omega) hfi (Ext.trans X2.out x3) (B2.out.ext x3)).mono ?_
        rintro e w5 ⟨rfl, x5, be', fi', fo', hfi', b5⟩
        have B5 := hide b5
        have X5 := hide x5
        clear b5 x5 x3 B2 X2 HIH HT
        go_wp2_with fail
        go_roundw
        case rel => exact ⟨k + 1, be', fi', fo', by omega, by go_num, hfi', X5, B5⟩
        case measure => simp [intOf]; omega
    · obtain rfl : k = sn := by omega
      go_wp2
      go_end0
      exact ⟨rfl, HX.out, _, _, _, hfi, HB.out⟩
end
end Go.Proofs.YtfelgolfebhmkaaDoor
