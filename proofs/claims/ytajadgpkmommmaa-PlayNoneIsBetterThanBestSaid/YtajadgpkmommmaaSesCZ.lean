/- Walk: Score at a right session. Conditions as stated. -/
import Derived.Test.YtajadgpkmommmaaLawRZ
import Derived.Test.YtajadgpkmommmaaFilmG
import Derived.Test.YtajadgpkmommmaaTw
import Derived.Deep.DeepCutAuto
import Derived.Lib.MinMax
import Derived.Test.YtajadgpkmommmaaNibPZ
import Derived.Test.YtajadgpkmommmaaRunA
import Derived.Test.YtajadgpkmommmaaFilmA
import Derived.Test.YtajadgpkmommmaaHeldZ
import Derived.Deep.RegionHeld3
import Derived.Deep.DrawnRows
namespace Go.Proofs.Ytajadgpkmommmaa
open Go.RowKit
theorem sum_stalls_succ {l : List (Int × Int)} {k : Nat} (h : k < l.length) : ((l.take (k + 1)).map fun x => x.2 - x.1).sum = ((l.take k).map fun x => x.2 - x.1).sum + ((l.getD k (0, 0)).2 - (l.getD k (0, 0)).1) := by
  rw [List.take_succ_eq_append_getElem h, List.map_append, List.sum_append]; simp [List.getD, h]
theorem stalls_bd {l : List (Int × Int)} {b : Int} (hb : 0 ≤ b) (h1 : ∀ k, k < l.length → (l.getD k (0, 0)).1 < (l.getD k (0, 0)).2 ∧ (l.getD k (0, 0)).2 ≤ 2000000000000 ∧ b ≤ (l.getD k (0, 0)).1) : ∀ k, k ≤ l.length → 0 ≤ ((l.take k).map fun x => x.2 - x.1).sum ∧ ((l.take k).map fun x => x.2 - x.1).sum ≤ 2000000000000 * k
  | 0, _ => by simp
  | k + 1, hk => by
    have ih := stalls_bd hb h1 k (by omega)
    have := h1 k (by omega)
    rw [sum_stalls_succ (by omega)]
    omega
section
variable {lA : Option Addr} {ln lc : Nat} {sA : Option Addr} {sn sc : Nat} {qA : Option Addr} {qn qc : Nat} {L : List Int} {S : List (List Int)} {Q : List Int} {cA aA rA tA : Option Addr} {cn cc an ac rn rc tn tc : Nat} {ch asd arr : List Int} {sts : List (Int × Int)} {beg en : Int} {w : World}
set_option maxRecDepth 1000000 in
set_option maxHeartbeats 16000000 in
theorem sessionFault_ok (h : Shw w lA ln lc sA sn sc qA qn qc L S Q) (hS : SesOk L S.length ch asd arr beg sts en) (hs20 : S.length ≤ 20) (a1 : At w 1 e64 cA cn cc ch) (a2 : At w 1 e64 aA an ac asd) (a3 : At w 1 e64 rA rn rc arr) (a4 : At w 2 e2 tA tn tc sts) :
    Calls Try.prog 32 #[shV lA ln lc sA sn sc qA qn qc, .agg #[.slice cA cn cc, .slice aA an ac, .slice rA rn rc, .int .i64 beg, .slice tA tn tc, .int .i64 en]] w fun e w' => e = .returned (.int .i64 0) ∧ Ext w w' := by
  have hLn := h.longs.len
  have hSn := h.sizes.len
  have h0 := hS.l0
  have h200 := hS.l1
  obtain rfl : ln = cn := by rw [← a1.len, hS.lc, hLn]
  obtain rfl : ln = an := by rw [← a2.len, hS.la, hLn]
  obtain rfl : ln = rn := by rw [← a3.len, hS.le, hLn]
  obtain ⟨bl, ol, rfl, _⟩ := h.longs.addr (by omega)
  obtain ⟨bc, oc, rfl, _⟩ := a1.addr (by omega)
  obtain ⟨ba, oa, rfl, _⟩ := a2.addr (by omega)
  obtain ⟨br, orr, rfl, _⟩ := a3.addr (by omega)
  have htn : tn ≤ ln := by rw [← a4.len]; have := hS.few; omega
  have hb0 : 0 ≤ beg := by have := hS.ar 0 h0; have := hS.b0; omega
  have HX : Hid (Ext w ((w.alloc (.cells #[.slice (some ⟨bl, ol, none⟩) ln lc, .slice sA sn sc, .slice qA qn qc] 25)).alloc (.cells #[.slice (some ⟨bc, oc, none⟩) ln cc, .slice (some ⟨ba, oa, none⟩) ln ac, .slice (some ⟨br, orr, none⟩) ln rc, .int .i64 beg, .slice tA tn tc, .int .i64 en] 33))) := hide (ext_alloc (Ext.alloc _ _) _)
  have hk0 := (Blk.new w 25 #[.slice (some ⟨bl, ol, none⟩) ln lc, .slice sA sn sc, .slice qA qn qc]).alloc (.cells #[.slice (some ⟨bc, oc, none⟩) ln cc, .slice (some ⟨ba, oa, none⟩) ln ac, .slice (some ⟨br, orr, none⟩) ln rc, .int .i64 beg, .slice tA tn tc, .int .i64 en] 33)
  have hk1 := Blk.new (w.alloc (.cells #[.slice (some ⟨bl, ol, none⟩) ln lc, .slice sA sn sc, .slice qA qn qc] 25)) 33 #[.slice (some ⟨bc, oc, none⟩) ln cc, .slice (some ⟨ba, oa, none⟩) ln ac, .slice (some ⟨br, orr, none⟩) ln rc, .int .i64 beg, .slice tA tn tc, .int .i64 en]
  simp only [World.size_alloc] at hk1
  have B0 := hide hk0
  have B1 := hide hk1
  clear hk0 hk1
  have HSU := hide (fun (W : World) (hW : Ext w W) => keySum_any (h.longs.ext hW) (by omega) hS.lr)
  have hsb := sumI_bound hS.lr L.length (Nat.le_refl _)
  rw [sumI_all rfl] at hsb
  have HST := hide (stalls_bd hb0 hS.sr)
  have HSS := hide (fun k (hk : k < sts.length) => sum_stalls_succ hk)
  have HH := hide h
  have A1 := hide a1
  have A2 := hide a2
  have A3 := hide a3
  have A4 := hide a4
  have HS := hide hS
  have he0 := hS.e0
  have he1 := hS.e1
  have hbb := hS.b1
  have hba := hS.b0
  have hes := hS.es
  generalize L.sum = Ls at *
  have HES := hide hes
  have htl := a4.len
  have HTL := hide htl
  have wsn : IntKind.i64.wrap ((sn : Int) - 1) = (sn : Int) - 1 := by rw [IntKind.wrap_i64]; omega
  have hfull : sts.take tn = sts := by rw [← htl, List.take_length]
  have HFU := hide hfull
  have z0' : (0 : Int) < (ln : Int) := by omega
  have HLN := hide hLn
  have HSN := hide hSn
  have hsn : sn ≤ 20 := by omega
  have hl2 : ln ≤ 200 := by omega
  clear hLn hSn hs20 h hS a1 a2 a3 a4 hes htl hfull
  go_enter Try.func32, Try.ntmps32
  have s0_ : (((w.alloc (.cells #[.slice (some ⟨bl, ol, none⟩) ln lc, .slice sA sn sc, .slice qA qn qc] 25)).alloc (.cells #[.slice (some ⟨bc, oc, none⟩) ln cc, .slice (some ⟨ba, oa, none⟩) ln ac, .slice (some ⟨br, orr, none⟩) ln rc, .int .i64 beg, .slice tA tn tc, .int .i64 en] 33))).cell? ⟨w.heap.size, 0, none⟩ = some (.slice (some ⟨bl, ol, none⟩) ln lc) := B0.out.cell 0
  have s1_ : (((w.alloc (.cells #[.slice (some ⟨bl, ol, none⟩) ln lc, .slice sA sn sc, .slice qA qn qc] 25)).alloc (.cells #[.slice (some ⟨bc, oc, none⟩) ln cc, .slice (some ⟨ba, oa, none⟩) ln ac, .slice (some ⟨br, orr, none⟩) ln rc, .int .i64 beg, .slice tA tn tc, .int .i64 en] 33))).cell? ⟨w.heap.size, 1, none⟩ = some (.slice sA sn sc) := B0.out.cell 1
  have v0_ : (((w.alloc (.cells #[.slice (some ⟨bl, ol, none⟩) ln lc, .slice sA sn sc, .slice qA qn qc] 25)).alloc (.cells #[.slice (some ⟨bc, oc, none⟩) ln cc, .slice (some ⟨ba, oa, none⟩) ln ac, .slice (some ⟨br, orr, none⟩) ln rc, .int .i64 beg, .slice tA tn tc, .int .i64 en] 33))).cell? ⟨w.heap.size + 1, 0, none⟩ = some (.slice (some ⟨bc, oc, none⟩) ln cc) := B1.out.cell 0
  have v1_ : (((w.alloc (.cells #[.slice (some ⟨bl, ol, none⟩) ln lc, .slice sA sn sc, .slice qA qn qc] 25)).alloc (.cells #[.slice (some ⟨bc, oc, none⟩) ln cc, .slice (some ⟨ba, oa, none⟩) ln ac, .slice (some ⟨br, orr, none⟩) ln rc, .int .i64 beg, .slice tA tn tc, .int .i64 en] 33))).cell? ⟨w.heap.size + 1, 1, none⟩ = some (.slice (some ⟨ba, oa, none⟩) ln ac) := B1.out.cell 1
  have v2_ : (((w.alloc (.cells #[.slice (some ⟨bl, ol, none⟩) ln lc, .slice sA sn sc, .slice qA qn qc] 25)).alloc (.cells #[.slice (some ⟨bc, oc, none⟩) ln cc, .slice (some ⟨ba, oa, none⟩) ln ac, .slice (some ⟨br, orr, none⟩) ln rc, .int .i64 beg, .slice tA tn tc, .int .i64 en] 33))).cell? ⟨w.heap.size + 1, 2, none⟩ = some (.slice (some ⟨br, orr, none⟩) ln rc) := B1.out.cell 2
  have v3_ : (((w.alloc (.cells #[.slice (some ⟨bl, ol, none⟩) ln lc, .slice sA sn sc, .slice qA qn qc] 25)).alloc (.cells #[.slice (some ⟨bc, oc, none⟩) ln cc, .slice (some ⟨ba, oa, none⟩) ln ac, .slice (some ⟨br, orr, none⟩) ln rc, .int .i64 beg, .slice tA tn tc, .int .i64 en] 33))).cell? ⟨w.heap.size + 1, 3, none⟩ = some (.int .i64 beg) := B1.out.cell 3
  have v4_ : (((w.alloc (.cells #[.slice (some ⟨bl, ol, none⟩) ln lc, .slice sA sn sc, .slice qA qn qc] 25)).alloc (.cells #[.slice (some ⟨bc, oc, none⟩) ln cc, .slice (some ⟨ba, oa, none⟩) ln ac, .slice (some ⟨br, orr, none⟩) ln rc, .int .i64 beg, .slice tA tn tc, .int .i64 en] 33))).cell? ⟨w.heap.size + 1, 4, none⟩ = some (.slice tA tn tc) := B1.out.cell 4
  have v5_ : (((w.alloc (.cells #[.slice (some ⟨bl, ol, none⟩) ln lc, .slice sA sn sc, .slice qA qn qc] 25)).alloc (.cells #[.slice (some ⟨bc, oc, none⟩) ln cc, .slice (some ⟨ba, oa, none⟩) ln ac, .slice (some ⟨br, orr, none⟩) ln rc, .int .i64 beg, .slice tA tn tc, .int .i64 en] 33))).cell? ⟨w.heap.size + 1, 5, none⟩ = some (.int .i64 en) := B1.out.cell 5
  go_wp2_with fail
  refine gen_wpC fun w1 hw1 => ?_
  have E1 : Hid (Ext ((w.alloc (.cells #[.slice (some ⟨bl, ol, none⟩) ln lc, .slice sA sn sc, .slice qA qn qc] 25)).alloc (.cells #[.slice (some ⟨bc, oc, none⟩) ln cc, .slice (some ⟨ba, oa, none⟩) ln ac, .slice (some ⟨br, orr, none⟩) ln rc, .int .i64 beg, .slice tA tn tc, .int .i64 en] 33)) w1) := hide (by rw [hw1]; exact (by repeat' (first | (with_reducible exact Below.refl _ _) | (with_reducible assumption) | (with_reducible refine below_drewN ?_ _) | (with_reducible refine Below.drew ?_) | (with_reducible refine ext_alloc ?_ _) | (with_reducible refine Below.setCell ?_ ?_ _) | go_size)))
  have B0 := hide (B0.out.ext E1.out)
  have B1 := hide (B1.out.ext E1.out)
  have X1 := hide (Ext.trans HX.out E1.out)
  clear hw1 E1 HX s0_ s1_ v0_ v1_ v2_ v3_ v4_ v5_
  go_loopw [33] (fun ri wr => ∃ k : Nat, k ≤ ln ∧ ri = .int .i64 k ∧ Hid (Ext w1 wr)) (fun ri _ => ln - (intOf ri).toNat)
  case atStart => exact ⟨0, by omega, rfl, hide (Ext.refl _)⟩
  case round =>
    obtain ⟨k, hk, rfl, HW⟩ := hrel
    by_cases hlt : k < ln
    · have hkl : k < L.length := by have := HLN.out; omega
      have hcr := HS.out.cr k hkl
      rw [HSN.out] at hcr
      have har := HS.out.ar k hkl
      have XW := hide (Ext.trans X1.out HW.out)
      have j1 : (k : Int) < (ln : Int) := by omega
      have j0 : (0 : Int) ≤ (k : Int) := by omega
      have HC1 := hide (A1.out.num hlt)
      have HC2 := hide (A2.out.num hlt)
      have HC3 := hide (A3.out.num hlt)
      generalize ch.getD k 0 = c at *
      rcases Nat.eq_zero_or_pos k with rfl | hk0
      · generalize asd.getD 0 0 = a at *
        generalize arr.getD 0 0 = r at *
        have s0_ : wr.cell? ⟨w.heap.size, 0, none⟩ = some (.slice (some ⟨bl, ol, none⟩) ln lc) := (B0.out.ext HW.out).cell 0
        have s1_ : wr.cell? ⟨w.heap.size, 1, none⟩ = some (.slice sA sn sc) := (B0.out.ext HW.out).cell 1
        have v0_ : wr.cell? ⟨w.heap.size + 1, 0, none⟩ = some (.slice (some ⟨bc, oc, none⟩) ln cc) := (B1.out.ext HW.out).cell 0
        have v1_ : wr.cell? ⟨w.heap.size + 1, 1, none⟩ = some (.slice (some ⟨ba, oa, none⟩) ln ac) := (B1.out.ext HW.out).cell 1
        have v2_ : wr.cell? ⟨w.heap.size + 1, 2, none⟩ = some (.slice (some ⟨br, orr, none⟩) ln rc) := (B1.out.ext HW.out).cell 2
        have v3_ : wr.cell? ⟨w.heap.size + 1, 3, none⟩ = some (.int .i64 beg) := (B1.out.ext HW.out).cell 3
        have v4_ : wr.cell? ⟨w.heap.size + 1, 4, none⟩ = some (.slice tA tn tc) := (B1.out.ext HW.out).cell 4
        have v5_ : wr.cell? ⟨w.heap.size + 1, 5, none⟩ = some (.int .i64 en) := (B1.out.ext HW.out).cell 5
        have c1_ := XW.out.cell HC1.out
        rw [Nat.add_zero] at c1_
        have c2_ := XW.out.cell HC2.out
        rw [Nat.add_zero] at c2_
        have c3_ := XW.out.cell HC3.out
        rw [Nat.add_zero] at c3_
        go_wp2_with fail
        go_quiet ((go_at_call 24; exact quiet_left (out_no ⟨by omega, by omega⟩ _)))
        go_wp2_with fail
        refine gen_wpC fun w2 hw2 => ?_
        have E2 : Hid (Ext wr w2) := hide (by rw [hw2]; exact (by repeat' (first | (with_reducible exact Below.refl _ _) | (with_reducible assumption) | (with_reducible refine below_drewN ?_ _) | (with_reducible refine Below.drew ?_) | (with_reducible refine ext_alloc ?_ _) | (with_reducible refine Below.setCell ?_ ?_ _) | go_size)))
        clear s0_ s1_ v0_ v1_ v2_ v3_ v4_ v5_ c1_ c2_ c3_
        clear hw2
        have d1 : (decide (r < a)) = false := by simp; omega
        have s0_ : w2.cell? ⟨w.heap.size, 0, none⟩ = some (.slice (some ⟨bl, ol, none⟩) ln lc) := (B0.out.ext (Ext.trans HW.out E2.out)).cell 0
        have s1_ : w2.cell? ⟨w.heap.size, 1, none⟩ = some (.slice sA sn sc) := (B0.out.ext (Ext.trans HW.out E2.out)).cell 1
        have v0_ : w2.cell? ⟨w.heap.size + 1, 0, none⟩ = some (.slice (some ⟨bc, oc, none⟩) ln cc) := (B1.out.ext (Ext.trans HW.out E2.out)).cell 0
        have v1_ : w2.cell? ⟨w.heap.size + 1, 1, none⟩ = some (.slice (some ⟨ba, oa, none⟩) ln ac) := (B1.out.ext (Ext.trans HW.out E2.out)).cell 1
        have v2_ : w2.cell? ⟨w.heap.size + 1, 2, none⟩ = some (.slice (some ⟨br, orr, none⟩) ln rc) := (B1.out.ext (Ext.trans HW.out E2.out)).cell 2
        have v3_ : w2.cell? ⟨w.heap.size + 1, 3, none⟩ = some (.int .i64 beg) := (B1.out.ext (Ext.trans HW.out E2.out)).cell 3
        have v4_ : w2.cell? ⟨w.heap.size + 1, 4, none⟩ = some (.slice tA tn tc) := (B1.out.ext (Ext.trans HW.out E2.out)).cell 4
        have v5_ : w2.cell? ⟨w.heap.size + 1, 5, none⟩ = some (.int .i64 en) := (B1.out.ext (Ext.trans HW.out E2.out)).cell 5
        have c1_ := (Ext.trans XW.out E2.out).cell HC1.out
        rw [Nat.add_zero] at c1_
        have c2_ := (Ext.trans XW.out E2.out).cell HC2.out
        rw [Nat.add_zero] at c2_
        have c3_ := (Ext.trans XW.out E2.out).cell HC3.out
        rw [Nat.add_zero] at c3_
        go_quiet (fail)
        go_wp2_with (first | ((go_at_call 24; with_reducible refine (out_no ?_ _).mono ?_); (focus omega); rintro e w' ⟨rfl, rfl⟩) | ((go_at_call 24; with_reducible refine (out_yes ?_ _).mono ?_); (focus omega); rintro e w' ⟨rfl, rfl⟩))
        exact ⟨⟨1, by omega, by go_num, hide (Ext.trans HW.out (Ext.trans E2.out (by repeat' (first | (with_reducible exact Below.refl _ _) | (with_reducible assumption) | (with_reducible refine below_drewN ?_ _) | (with_reducible refine Below.drew ?_) | (with_reducible refine ext_alloc ?_ _) | (with_reducible refine Below.setCell ?_ ?_ _) | go_size))))⟩, by simp [intOf]; omega⟩
      · have hod := HS.out.od (k - 1) (by omega)
        rw [show k - 1 + 1 = k by omega] at hod
        have HC4 := hide (A3.out.num (k := k - 1) (by omega))
        generalize asd.getD k 0 = a at *
        generalize arr.getD (k - 1) 0 = rp at *
        generalize arr.getD k 0 = r at *
        have e2 : (0 : Int) < (k : Int) := by omega
        have e3 : IntKind.i64.wrap ((k : Int) - 1) = (k : Int) - 1 := by rw [IntKind.wrap_i64]; omega
        have e4 : ((k : Int) - 1).toNat = k - 1 := by omega
        have e5 : (0 : Int) ≤ (k : Int) - 1 := by omega
        have e6 : (k : Int) - 1 < (ln : Int) := by omega
        have e7 : (1 : Int) ≤ (k : Int) := by omega
        have e8 : (k : Int) ≤ (ln : Int) := by omega
        have s0_ : wr.cell? ⟨w.heap.size, 0, none⟩ = some (.slice (some ⟨bl, ol, none⟩) ln lc) := (B0.out.ext HW.out).cell 0
        have s1_ : wr.cell? ⟨w.heap.size, 1, none⟩ = some (.slice sA sn sc) := (B0.out.ext HW.out).cell 1
        have v0_ : wr.cell? ⟨w.heap.size + 1, 0, none⟩ = some (.slice (some ⟨bc, oc, none⟩) ln cc) := (B1.out.ext HW.out).cell 0
        have v1_ : wr.cell? ⟨w.heap.size + 1, 1, none⟩ = some (.slice (some ⟨ba, oa, none⟩) ln ac) := (B1.out.ext HW.out).cell 1
        have v2_ : wr.cell? ⟨w.heap.size + 1, 2, none⟩ = some (.slice (some ⟨br, orr, none⟩) ln rc) := (B1.out.ext HW.out).cell 2
        have v3_ : wr.cell? ⟨w.heap.size + 1, 3, none⟩ = some (.int .i64 beg) := (B1.out.ext HW.out).cell 3
        have v4_ : wr.cell? ⟨w.heap.size + 1, 4, none⟩ = some (.slice tA tn tc) := (B1.out.ext HW.out).cell 4
        have v5_ : wr.cell? ⟨w.heap.size + 1, 5, none⟩ = some (.int .i64 en) := (B1.out.ext HW.out).cell 5
        have c1_ := XW.out.cell HC1.out
        have c2_ := XW.out.cell HC2.out
        have c3_ := XW.out.cell HC3.out
        have c4_ := XW.out.cell HC4.out
        go_wp2_with fail
        go_quiet ((go_at_call 24; exact quiet_left (out_no ⟨by omega, by omega⟩ _)))
        go_wp2_with fail
        refine gen_wpC fun w2 hw2 => ?_
        have E2 : Hid (Ext wr w2) := hide (by rw [hw2]; exact (by repeat' (first | (with_reducible exact Below.refl _ _) | (with_reducible assumption) | (with_reducible refine below_drewN ?_ _) | (with_reducible refine Below.drew ?_) | (with_reducible refine ext_alloc ?_ _) | (with_reducible refine Below.setCell ?_ ?_ _) | go_size)))
        clear s0_ s1_ v0_ v1_ v2_ v3_ v4_ v5_ c1_ c2_ c3_ c4_
        clear hw2
        have d1 : (decide (r < a)) = false := by simp; omega
        have d2 : (decide (a < rp)) = false := by simp; omega
        have s0_ : w2.cell? ⟨w.heap.size, 0, none⟩ = some (.slice (some ⟨bl, ol, none⟩) ln lc) := (B0.out.ext (Ext.trans HW.out E2.out)).cell 0
        have s1_ : w2.cell? ⟨w.heap.size, 1, none⟩ = some (.slice sA sn sc) := (B0.out.ext (Ext.trans HW.out E2.out)).cell 1
        have v0_ : w2.cell? ⟨w.heap.size + 1, 0, none⟩ = some (.slice (some ⟨bc, oc, none⟩) ln cc) := (B1.out.ext (Ext.trans HW.out E2.out)).cell 0
        have v1_ : w2.cell? ⟨w.heap.size + 1, 1, none⟩ = some (.slice (some ⟨ba, oa, none⟩) ln ac) := (B1.out.ext (Ext.trans HW.out E2.out)).cell 1
        have v2_ : w2.cell? ⟨w.heap.size + 1, 2, none⟩ = some (.slice (some ⟨br, orr, none⟩) ln rc) := (B1.out.ext (Ext.trans HW.out E2.out)).cell 2
        have v3_ : w2.cell? ⟨w.heap.size + 1, 3, none⟩ = some (.int .i64 beg) := (B1.out.ext (Ext.trans HW.out E2.out)).cell 3
        have v4_ : w2.cell? ⟨w.heap.size + 1, 4, none⟩ = some (.slice tA tn tc) := (B1.out.ext (Ext.trans HW.out E2.out)).cell 4
        have v5_ : w2.cell? ⟨w.heap.size + 1, 5, none⟩ = some (.int .i64 en) := (B1.out.ext (Ext.trans HW.out E2.out)).cell 5
        have c1_ := (Ext.trans XW.out E2.out).cell HC1.out
        have c2_ := (Ext.trans XW.out E2.out).cell HC2.out
        have c3_ := (Ext.trans XW.out E2.out).cell HC3.out
        have c4_ := (Ext.trans XW.out E2.out).cell HC4.out
        go_quiet (fail)
        go_wp2_with (first | ((go_at_call 24; with_reducible refine (out_no ?_ _).mono ?_); (focus omega); rintro e w' ⟨rfl, rfl⟩) | ((go_at_call 24; with_reducible refine (out_yes ?_ _).mono ?_); (focus omega); rintro e w' ⟨rfl, rfl⟩))
        exact ⟨⟨k + 1, by omega, by go_num, hide (Ext.trans HW.out (Ext.trans E2.out (by repeat' (first | (with_reducible exact Below.refl _ _) | (with_reducible assumption) | (with_reducible refine below_drewN ?_ _) | (with_reducible refine Below.drew ?_) | (with_reducible refine ext_alloc ?_ _) | (with_reducible refine Below.setCell ?_ ?_ _) | go_size))))⟩, by simp [intOf]; omega⟩
    obtain rfl : ln = k := by omega
    have XW := hide (Ext.trans X1.out HW.out)
    have i1 : ¬ (ln : Int) < (ln : Int) := by omega
    have c3_ := XW.out.cell (A3.out.num (k := 0) (show 0 < ln by omega))
    rw [Nat.add_zero] at c3_
    generalize arr.getD 0 0 = r at *
    have d1 : (decide (beg < r)) = false := by simp; omega
    have s0_ : wr.cell? ⟨w.heap.size, 0, none⟩ = some (.slice (some ⟨bl, ol, none⟩) ln lc) := (B0.out.ext HW.out).cell 0
    have s1_ : wr.cell? ⟨w.heap.size, 1, none⟩ = some (.slice sA sn sc) := (B0.out.ext HW.out).cell 1
    have v0_ : wr.cell? ⟨w.heap.size + 1, 0, none⟩ = some (.slice (some ⟨bc, oc, none⟩) ln cc) := (B1.out.ext HW.out).cell 0
    have v1_ : wr.cell? ⟨w.heap.size + 1, 1, none⟩ = some (.slice (some ⟨ba, oa, none⟩) ln ac) := (B1.out.ext HW.out).cell 1
    have v2_ : wr.cell? ⟨w.heap.size + 1, 2, none⟩ = some (.slice (some ⟨br, orr, none⟩) ln rc) := (B1.out.ext HW.out).cell 2
    have v3_ : wr.cell? ⟨w.heap.size + 1, 3, none⟩ = some (.int .i64 beg) := (B1.out.ext HW.out).cell 3
    have v4_ : wr.cell? ⟨w.heap.size + 1, 4, none⟩ = some (.slice tA tn tc) := (B1.out.ext HW.out).cell 4
    have v5_ : wr.cell? ⟨w.heap.size + 1, 5, none⟩ = some (.int .i64 en) := (B1.out.ext HW.out).cell 5
    go_wp2_with fail
    go_quiet (fail)
    go_wp2_with fail
    refine gen_wpC fun w5 hw5 => ?_
    have E5 : Hid (Ext wr w5) := hide (by rw [hw5]; exact (by repeat' (first | (with_reducible exact Below.refl _ _) | (with_reducible assumption) | (with_reducible refine below_drewN ?_ _) | (with_reducible refine Below.drew ?_) | (with_reducible refine ext_alloc ?_ _) | (with_reducible refine Below.setCell ?_ ?_ _) | go_size)))
    have C0 := hide (B0.out.ext (Ext.trans HW.out E5.out))
    have C1 := hide (B1.out.ext (Ext.trans HW.out E5.out))
    have X5 := hide (Ext.trans XW.out E5.out)
    clear hw5 E5 hlt XW HW B0 B1 X1 s0_ s1_ v0_ v1_ v2_ v3_ v4_ v5_ c3_ d1
    go_loopw [7, 116] (fun rs ri wr => ∃ (j : Nat) (s : Int), j ≤ tn ∧ ri = .int .i64 j ∧ rs = .int .i64 s ∧ Hid (s = beg + ((sts.take j).map fun x => x.2 - x.1).sum) ∧ Hid (Ext w5 wr)) (fun _ ri _ => tn - (intOf ri).toNat)
    case atStart => exact ⟨0, _, by omega, rfl, rfl, hide (by simp), hide (Ext.refl _)⟩
    case round =>
      obtain ⟨j, s, hj, rfl, rfl, HS2, HX2⟩ := hrel
      have hsb2 := HST.out j (by have := HTL.out; omega)
      have hs1 : 0 ≤ s := by have := HS2.out; omega
      have hs2 : s ≤ 1000000000000000 := by have := HS2.out; omega
      clear hsb2
      by_cases hlt : j < tn
      · obtain ⟨bt, ot, rfl, _⟩ := A4.out.addr (by omega)
        obtain ⟨a1, a2⟩ := (A4.out.ext (Ext.trans X5.out HX2.out)).pair hlt
        obtain ⟨g1, g2, g3⟩ := HS.out.sr j (by have := HTL.out; omega)
        have hst := HSS.out j (by have := HTL.out; omega)
        generalize hv1 : (sts.getD j (0, 0)).1 = t1 at *
        generalize hv2 : (sts.getD j (0, 0)).2 = t2 at *
        have HV1 := hide hv1
        have HST2 := hide hst
        have i1 : (j : Int) < (tn : Int) := by omega
        have i2 : (decide (t2 ≤ t1)) = false := by simp; omega
        have i3 : (decide (t1 < beg)) = false := by simp; omega
        have k0_ := (C0.out.ext HX2.out)
        have k1_ := (C1.out.ext HX2.out)
        rcases Nat.eq_zero_or_pos j with rfl | hj0
        · rw [Nat.zero_mul, Nat.add_zero] at a1
          rw [Nat.zero_mul, Nat.add_zero] at a2
          clear hst hv1 hv2
          have g3_ : (wr.alloc (.cells #[.int .i64 t1, .int .i64 t2] 64)).cell? ⟨w.heap.size + 1, 3, none⟩ = some (.int .i64 beg) := (Ext.alloc _ _).cell (k1_.cell 3)
          have g4_ : (wr.alloc (.cells #[.int .i64 t1, .int .i64 t2] 64)).cell? ⟨w.heap.size + 1, 4, none⟩ = some (.slice (some ⟨bt, ot, none⟩) tn tc) := (Ext.alloc _ _).cell (k1_.cell 4)
          clear k0_ k1_
          go_wp2_with fail
          go_quiet (fail)
          go_wp2_with fail
          exact ⟨⟨1, _, by omega, by go_num, rfl, hide (by have := HS2.out; rw [HST2.out]; omega), hide (Ext.trans HX2.out (by repeat' (first | (with_reducible exact Below.refl _ _) | (with_reducible assumption) | (with_reducible refine below_drewN ?_ _) | (with_reducible refine Below.drew ?_) | (with_reducible refine ext_alloc ?_ _) | (with_reducible refine Below.setCell ?_ ?_ _) | go_size)))⟩, by simp [intOf]; omega⟩
        · have hod := HS.out.so (j - 1) (by have := HTL.out; omega)
          rw [show j - 1 + 1 = j by omega, HV1.out] at hod
          obtain ⟨_, a4⟩ := (A4.out.ext (Ext.trans X5.out HX2.out)).pair (k := j - 1) (by omega)
          generalize (sts.getD (j - 1) (0, 0)).2 = tp at *
          have e2 : (0 : Int) < (j : Int) := by omega
          have e9 : (decide ((0 : Int) < (j : Int))) = true := by simp; omega
          have e3 : IntKind.i64.wrap ((j : Int) - 1) = (j : Int) - 1 := by rw [IntKind.wrap_i64]; omega
          have e4 : ((j : Int) - 1).toNat = j - 1 := by omega
          have e5 : (0 : Int) ≤ (j : Int) - 1 := by omega
          have e6 : (j : Int) - 1 < (tn : Int) := by omega
          have e7 : (1 : Int) ≤ (j : Int) := by omega
          have e8 : (j : Int) ≤ (tn : Int) := by omega
          have i5 : (decide (t1 < tp)) = false := by simp; omega
          clear hst hv1 hv2
          have g3_ : (wr.alloc (.cells #[.int .i64 t1, .int .i64 t2] 64)).cell? ⟨w.heap.size + 1, 3, none⟩ = some (.int .i64 beg) := (Ext.alloc _ _).cell (k1_.cell 3)
          have g4_ : (wr.alloc (.cells #[.int .i64 t1, .int .i64 t2] 64)).cell? ⟨w.heap.size + 1, 4, none⟩ = some (.slice (some ⟨bt, ot, none⟩) tn tc) := (Ext.alloc _ _).cell (k1_.cell 4)
          have a5 : (wr.alloc (.cells #[.int .i64 t1, .int .i64 t2] 64)).cell? ⟨bt, ot + (j - 1) * 2 + 1, none⟩ = some (.int .i64 tp) := (Ext.alloc _ _).cell a4
          clear k0_ k1_
          go_wp2_with fail
          go_quiet (fail)
          go_wp2_with fail
          exact ⟨⟨j + 1, _, by omega, by go_num, rfl, hide (by have := HS2.out; rw [HST2.out]; omega), hide (Ext.trans HX2.out (by repeat' (first | (with_reducible exact Below.refl _ _) | (with_reducible assumption) | (with_reducible refine below_drewN ?_ _) | (with_reducible refine Below.drew ?_) | (with_reducible refine ext_alloc ?_ _) | (with_reducible refine Below.setCell ?_ ?_ _) | go_size)))⟩, by simp [intOf]; omega⟩
      obtain rfl : tn = j := by omega
      have i1 : ¬ (tn : Int) < (tn : Int) := by omega
      have hse : en = s + Ls := by have := HES.out; have := HS2.out; rw [HFU.out] at this; omega
      have hsb3 := hsb
      obtain ⟨HY1, HY2⟩ : Hid (Ext w wr) ∧ Hid (wr.cell? ⟨w.heap.size + 1, 5, none⟩ = some (.int .i64 en)) := ⟨hide (Ext.trans X5.out HX2.out), hide ((C1.out.ext HX2.out).cell 5)⟩
      have v5_ := HY2.out
      have s0_ : wr.cell? ⟨w.heap.size, 0, none⟩ = some (.slice (some ⟨bl, ol, none⟩) ln lc) := (C0.out.ext HX2.out).cell 0
      have d2 : IntKind.i64.wrap (s + Ls) = s + Ls := by rw [IntKind.wrap_i64]; omega
      have d3 : (s + Ls != s + Ls) = false := by simp
      subst hse
      clear hsb hsb3
      go_wp2_with (first | ((go_at_call 24; with_reducible refine (out_no ?_ _).mono ?_); (focus omega); rintro e w' ⟨rfl, rfl⟩) | ((go_at_call 24; with_reducible refine (out_yes ?_ _).mono ?_); (focus omega); rintro e w' ⟨rfl, rfl⟩))
      go_quiet ((go_at_call 52; exact quiet_left (HSU.out _ (Ext.trans HY1.out (by repeat' (first | (with_reducible exact Below.refl _ _) | (with_reducible assumption) | (with_reducible refine below_drewN ?_ _) | (with_reducible refine Below.drew ?_) | (with_reducible refine ext_alloc ?_ _) | (with_reducible refine Below.setCell ?_ ?_ _) | go_size))))))
      go_wp2_with fail
      go_ret
      exact ⟨rfl, Ext.trans HY1.out (by repeat' (first | (with_reducible exact Below.refl _ _) | (with_reducible assumption) | (with_reducible refine below_drewN ?_ _) | (with_reducible refine Below.drew ?_) | (with_reducible refine ext_alloc ?_ _) | (with_reducible refine Below.setCell ?_ ?_ _) | go_size))⟩
end
end Go.Proofs.Ytajadgpkmommmaa
namespace Go.Proofs.Ytajadgpkmommmaa
open Go.RowKit
theorem stS_take {t : Int} {l : List (Int × Int)} {k : Nat} (h : k < l.length) : stS t (l.take (k + 1)) = stS t (l.take k) + max 0 (min t (l.getD k (0, 0)).2 - (l.getD k (0, 0)).1) := by
  rw [List.take_succ_eq_append_getElem h, stS_app]; simp [List.getD, h]
theorem stS_bd {t b : Int} {l : List (Int × Int)} (hb : 0 ≤ b) (h1 : ∀ k, k < l.length → (l.getD k (0, 0)).1 < (l.getD k (0, 0)).2 ∧ (l.getD k (0, 0)).2 ≤ 2000000000000 ∧ b ≤ (l.getD k (0, 0)).1) : ∀ k, k ≤ l.length → 0 ≤ stS t (l.take k) ∧ stS t (l.take k) ≤ 2000000000000 * k
  | 0, _ => by simp [stS]
  | k + 1, hk => by
    have ih := stS_bd (t := t) hb h1 k (by omega)
    have := h1 k (by omega)
    rw [stS_take (by omega)]
    omega
theorem levK_bd {L arr : List Int} {t : Int} (h : ∀ i, i < L.length → 0 ≤ L.getD i 0 ∧ L.getD i 0 ≤ 1000000000) : ∀ k, k ≤ L.length → 0 ≤ levK arr L t k ∧ levK arr L t k ≤ 1000000000 * k
  | 0, _ => by simp [levK]
  | k + 1, hk => by
    have ih := levK_bd (arr := arr) (t := t) h k (by omega)
    have := h k (by omega)
    show 0 ≤ (if arr.getD k 0 ≤ t then levK arr L t k + L.getD k 0 else levK arr L t k) ∧ (if arr.getD k 0 ≤ t then levK arr L t k + L.getD k 0 else levK arr L t k) ≤ _
    split <;> omega
section
variable {lA : Option Addr} {ln lc : Nat} {sA : Option Addr} {sn sc : Nat} {qA : Option Addr} {qn qc : Nat} {L : List Int} {S : List (List Int)} {Q : List Int} {cA aA rA tA : Option Addr} {cn cc an ac rn rc tn tc : Nat} {ch asd arr : List Int} {sts : List (Int × Int)} {beg en : Int} {w : World}
theorem film_few (h : filmF L S Q = 0) : S.length ≤ 20 := (filmF_ok h).s1
set_option maxRecDepth 100000 in
set_option maxHeartbeats 4000000 in
theorem checkSession_ok (h : Shw w lA ln lc sA sn sc qA qn qc L S Q) (hF : filmF L S Q = 0) (hS : SesOk L S.length ch asd arr beg sts en) (a1 : At w 1 e64 cA cn cc ch) (a2 : At w 1 e64 aA an ac asd) (a3 : At w 1 e64 rA rn rc arr) (a4 : At w 2 e2 tA tn tc sts) :
    Calls Try.prog 15 #[shV lA ln lc sA sn sc qA qn qc, .agg #[.slice cA cn cc, .slice aA an ac, .slice rA rn rc, .int .i64 beg, .slice tA tn tc, .int .i64 en]] w fun e w' => e = .returned (.int .i64 0) ∧ Ext w w' := by
  have HC := hide (fun (W : World) (hW : Ext w W) => (show Calls Try.prog 31 #[shV lA ln lc sA sn sc qA qn qc] W (fun e w' => e = .returned (.int .i64 0) ∧ Ext W w') from by have hk := keyFilm_any (h.ext hW); rw [hF] at hk; exact hk))
  have HS := hide (fun (W : World) (hW : Ext w W) => sessionFault_ok (h.ext hW) hS (film_few hF) (a1.ext hW) (a2.ext hW) (a3.ext hW) (a4.ext hW))
  have HX : Hid (Ext w ((w.alloc (.cells #[.slice lA ln lc, .slice sA sn sc, .slice qA qn qc] 25)).alloc (.cells #[.slice cA cn cc, .slice aA an ac, .slice rA rn rc, .int .i64 beg, .slice tA tn tc, .int .i64 en] 33))) := hide (ext_alloc (Ext.alloc _ _) _)
  have hk0 := (Blk.new w 25 #[.slice lA ln lc, .slice sA sn sc, .slice qA qn qc]).alloc (.cells #[.slice cA cn cc, .slice aA an ac, .slice rA rn rc, .int .i64 beg, .slice tA tn tc, .int .i64 en] 33)
  have hk1 := Blk.new (w.alloc (.cells #[.slice lA ln lc, .slice sA sn sc, .slice qA qn qc] 25)) 33 #[.slice cA cn cc, .slice aA an ac, .slice rA rn rc, .int .i64 beg, .slice tA tn tc, .int .i64 en]
  simp only [World.size_alloc] at hk1
  have B0 := hide hk0
  have B1 := hide hk1
  clear hk0 hk1 h hF hS a1 a2 a3 a4
  have r0_ : ((w.alloc (.cells #[.slice lA ln lc, .slice sA sn sc, .slice qA qn qc] 25)).alloc (.cells #[.slice cA cn cc, .slice aA an ac, .slice rA rn rc, .int .i64 beg, .slice tA tn tc, .int .i64 en] 33)).cell? ⟨w.heap.size, 0, none⟩ = some (.slice lA ln lc) := B0.out.cell 0
  have r1_ : ((w.alloc (.cells #[.slice lA ln lc, .slice sA sn sc, .slice qA qn qc] 25)).alloc (.cells #[.slice cA cn cc, .slice aA an ac, .slice rA rn rc, .int .i64 beg, .slice tA tn tc, .int .i64 en] 33)).cell? ⟨w.heap.size, 1, none⟩ = some (.slice sA sn sc) := B0.out.cell 1
  have r2_ : ((w.alloc (.cells #[.slice lA ln lc, .slice sA sn sc, .slice qA qn qc] 25)).alloc (.cells #[.slice cA cn cc, .slice aA an ac, .slice rA rn rc, .int .i64 beg, .slice tA tn tc, .int .i64 en] 33)).cell? ⟨w.heap.size, 2, none⟩ = some (.slice qA qn qc) := B0.out.cell 2
  have v0_ : ((w.alloc (.cells #[.slice lA ln lc, .slice sA sn sc, .slice qA qn qc] 25)).alloc (.cells #[.slice cA cn cc, .slice aA an ac, .slice rA rn rc, .int .i64 beg, .slice tA tn tc, .int .i64 en] 33)).cell? ⟨w.heap.size + 1, 0, none⟩ = some (.slice cA cn cc) := B1.out.cell 0
  have v1_ : ((w.alloc (.cells #[.slice lA ln lc, .slice sA sn sc, .slice qA qn qc] 25)).alloc (.cells #[.slice cA cn cc, .slice aA an ac, .slice rA rn rc, .int .i64 beg, .slice tA tn tc, .int .i64 en] 33)).cell? ⟨w.heap.size + 1, 1, none⟩ = some (.slice aA an ac) := B1.out.cell 1
  have v2_ : ((w.alloc (.cells #[.slice lA ln lc, .slice sA sn sc, .slice qA qn qc] 25)).alloc (.cells #[.slice cA cn cc, .slice aA an ac, .slice rA rn rc, .int .i64 beg, .slice tA tn tc, .int .i64 en] 33)).cell? ⟨w.heap.size + 1, 2, none⟩ = some (.slice rA rn rc) := B1.out.cell 2
  have v3_ : ((w.alloc (.cells #[.slice lA ln lc, .slice sA sn sc, .slice qA qn qc] 25)).alloc (.cells #[.slice cA cn cc, .slice aA an ac, .slice rA rn rc, .int .i64 beg, .slice tA tn tc, .int .i64 en] 33)).cell? ⟨w.heap.size + 1, 3, none⟩ = some (.int .i64 beg) := B1.out.cell 3
  have v4_ : ((w.alloc (.cells #[.slice lA ln lc, .slice sA sn sc, .slice qA qn qc] 25)).alloc (.cells #[.slice cA cn cc, .slice aA an ac, .slice rA rn rc, .int .i64 beg, .slice tA tn tc, .int .i64 en] 33)).cell? ⟨w.heap.size + 1, 4, none⟩ = some (.slice tA tn tc) := B1.out.cell 4
  have v5_ : ((w.alloc (.cells #[.slice lA ln lc, .slice sA sn sc, .slice qA qn qc] 25)).alloc (.cells #[.slice cA cn cc, .slice aA an ac, .slice rA rn rc, .int .i64 beg, .slice tA tn tc, .int .i64 en] 33)).cell? ⟨w.heap.size + 1, 5, none⟩ = some (.int .i64 en) := B1.out.cell 5
  go_enter Try.func15, Try.ntmps15
  go_wp2_with fail
  refine (HC.out _ HX.out).mono ?_
  rintro e w1 ⟨rfl, e1⟩
  have E1 := hide e1
  clear r0_ r1_ r2_ v0_ v1_ v2_ v3_ v4_ v5_
  have C0 := hide (B0.out.ext e1)
  have C1 := hide (B1.out.ext e1)
  clear e1
  have r0_ : w1.cell? ⟨w.heap.size, 0, none⟩ = some (.slice lA ln lc) := C0.out.cell 0
  have r1_ : w1.cell? ⟨w.heap.size, 1, none⟩ = some (.slice sA sn sc) := C0.out.cell 1
  have r2_ : w1.cell? ⟨w.heap.size, 2, none⟩ = some (.slice qA qn qc) := C0.out.cell 2
  have v0_ : w1.cell? ⟨w.heap.size + 1, 0, none⟩ = some (.slice cA cn cc) := C1.out.cell 0
  have v1_ : w1.cell? ⟨w.heap.size + 1, 1, none⟩ = some (.slice aA an ac) := C1.out.cell 1
  have v2_ : w1.cell? ⟨w.heap.size + 1, 2, none⟩ = some (.slice rA rn rc) := C1.out.cell 2
  have v3_ : w1.cell? ⟨w.heap.size + 1, 3, none⟩ = some (.int .i64 beg) := C1.out.cell 3
  have v4_ : w1.cell? ⟨w.heap.size + 1, 4, none⟩ = some (.slice tA tn tc) := C1.out.cell 4
  have v5_ : w1.cell? ⟨w.heap.size + 1, 5, none⟩ = some (.int .i64 en) := C1.out.cell 5
  go_wp2_with fail
  refine (HS.out _ (Ext.trans HX.out E1.out)).mono ?_
  rintro e w2 ⟨rfl, e2⟩
  go_wp2
  go_ret
  exact ⟨rfl, Ext.trans HX.out (Ext.trans E1.out e2)⟩
set_option linter.unusedVariables false in
set_option maxRecDepth 100000 in
set_option maxHeartbeats 8000000 in
theorem level_ok (h : Shw w lA ln lc sA sn sc qA qn qc L S Q) (hF : filmF L S Q = 0) (hS : SesOk L S.length ch asd arr beg sts en) (a1 : At w 1 e64 cA cn cc ch) (a2 : At w 1 e64 aA an ac asd) (a3 : At w 1 e64 rA rn rc arr) (a4 : At w 2 e2 tA tn tc sts) {t : Int} (ht : 0 ≤ t ∧ t ≤ 2000000000000) (hnn : 0 ≤ levK arr L t L.length - plyP beg sts en t) :
    Calls Try.prog 9 #[shV lA ln lc sA sn sc qA qn qc, .agg #[.slice cA cn cc, .slice aA an ac, .slice rA rn rc, .int .i64 beg, .slice tA tn tc, .int .i64 en], .int .i64 t] w fun e w' => e = .returned (.tuple #[.int .i64 (levK arr L t L.length - plyP beg sts en t), .int .i64 0]) ∧ Ext w w' := by
  have hLn := h.longs.len
  have h0 := hS.l0
  have h200 := hS.l1
  have hrl : rn = ln := by rw [← a3.len, hS.le, hLn]
  have HC := hide (fun (W : World) (hW : Ext w W) => checkSession_ok (h.ext hW) hF hS (a1.ext hW) (a2.ext hW) (a3.ext hW) (a4.ext hW))
  obtain ⟨bl, ol, rfl, _⟩ := h.longs.addr (by omega)
  obtain ⟨br, orr, rfl, _⟩ := a3.addr (by omega)
  have htn : tn ≤ ln := by rw [← a4.len]; have := hS.few; omega
  have hb0 : 0 ≤ beg := by have := hS.ar 0 h0; have := hS.b0; omega
  have HX : Hid (Ext w ((w.alloc (.cells #[.slice (some ⟨bl, ol, none⟩) ln lc, .slice sA sn sc, .slice qA qn qc] 25)).alloc (.cells #[.slice cA cn cc, .slice aA an ac, .slice (some ⟨br, orr, none⟩) rn rc, .int .i64 beg, .slice tA tn tc, .int .i64 en] 33))) := hide (ext_alloc (Ext.alloc _ _) _)
  have hk0 := (Blk.new w 25 #[.slice (some ⟨bl, ol, none⟩) ln lc, .slice sA sn sc, .slice qA qn qc]).alloc (.cells #[.slice cA cn cc, .slice aA an ac, .slice (some ⟨br, orr, none⟩) rn rc, .int .i64 beg, .slice tA tn tc, .int .i64 en] 33)
  have hk1 := Blk.new (w.alloc (.cells #[.slice (some ⟨bl, ol, none⟩) ln lc, .slice sA sn sc, .slice qA qn qc] 25)) 33 #[.slice cA cn cc, .slice aA an ac, .slice (some ⟨br, orr, none⟩) rn rc, .int .i64 beg, .slice tA tn tc, .int .i64 en]
  simp only [World.size_alloc] at hk1
  have B0 := hide hk0
  have B1 := hide hk1
  have HLB := hide (levK_bd (arr := arr) (t := t) hS.lr)
  have HSB := hide (stS_bd (t := t) hb0 hS.sr)
  have HST := hide (fun k (hk : k < sts.length) => stS_take (t := t) hk)
  have HLV : Hid (∀ k, levK arr L t (k + 1) = if arr.getD k 0 ≤ t then levK arr L t k + L.getD k 0 else levK arr L t k) := hide (fun _ => rfl)
  have hpl : plyP beg sts en t = max 0 (min t en - beg) - stS t sts := rfl
  have HPL := hide hpl
  have A3 := hide a3
  have A4 := hide a4
  have AL := hide h.longs
  have HS := hide hS
  have he0 := hS.e0
  have he1 := hS.e1
  have hbb := hS.b1
  have HLN := hide hLn
  have htl := a4.len
  have HTL := hide htl
  have HFU : Hid (sts.take tn = sts) := hide (by rw [← htl, List.take_length])
  have hl2 : ln ≤ 200 := by omega
  obtain ⟨ht0, ht1⟩ := ht
  have HNN := hide hnn
  have HRL := hide hrl
  have hrl1 : rn ≤ ln := by omega
  have hrl2 : ln ≤ rn := by omega
  have z0' : 0 < ln := by omega
  clear hk0 hk1 h hF hS a1 a2 a3 a4 hnn hpl hLn htl hrl
  have r0_ : ((w.alloc (.cells #[.slice (some ⟨bl, ol, none⟩) ln lc, .slice sA sn sc, .slice qA qn qc] 25)).alloc (.cells #[.slice cA cn cc, .slice aA an ac, .slice (some ⟨br, orr, none⟩) rn rc, .int .i64 beg, .slice tA tn tc, .int .i64 en] 33)).cell? ⟨w.heap.size, 0, none⟩ = some (.slice (some ⟨bl, ol, none⟩) ln lc) := B0.out.cell 0
  have r1_ : ((w.alloc (.cells #[.slice (some ⟨bl, ol, none⟩) ln lc, .slice sA sn sc, .slice qA qn qc] 25)).alloc (.cells #[.slice cA cn cc, .slice aA an ac, .slice (some ⟨br, orr, none⟩) rn rc, .int .i64 beg, .slice tA tn tc, .int .i64 en] 33)).cell? ⟨w.heap.size, 1, none⟩ = some (.slice sA sn sc) := B0.out.cell 1
  have r2_ : ((w.alloc (.cells #[.slice (some ⟨bl, ol, none⟩) ln lc, .slice sA sn sc, .slice qA qn qc] 25)).alloc (.cells #[.slice cA cn cc, .slice aA an ac, .slice (some ⟨br, orr, none⟩) rn rc, .int .i64 beg, .slice tA tn tc, .int .i64 en] 33)).cell? ⟨w.heap.size, 2, none⟩ = some (.slice qA qn qc) := B0.out.cell 2
  have v0_ : ((w.alloc (.cells #[.slice (some ⟨bl, ol, none⟩) ln lc, .slice sA sn sc, .slice qA qn qc] 25)).alloc (.cells #[.slice cA cn cc, .slice aA an ac, .slice (some ⟨br, orr, none⟩) rn rc, .int .i64 beg, .slice tA tn tc, .int .i64 en] 33)).cell? ⟨w.heap.size + 1, 0, none⟩ = some (.slice cA cn cc) := B1.out.cell 0
  have v1_ : ((w.alloc (.cells #[.slice (some ⟨bl, ol, none⟩) ln lc, .slice sA sn sc, .slice qA qn qc] 25)).alloc (.cells #[.slice cA cn cc, .slice aA an ac, .slice (some ⟨br, orr, none⟩) rn rc, .int .i64 beg, .slice tA tn tc, .int .i64 en] 33)).cell? ⟨w.heap.size + 1, 1, none⟩ = some (.slice aA an ac) := B1.out.cell 1
  have v2_ : ((w.alloc (.cells #[.slice (some ⟨bl, ol, none⟩) ln lc, .slice sA sn sc, .slice qA qn qc] 25)).alloc (.cells #[.slice cA cn cc, .slice aA an ac, .slice (some ⟨br, orr, none⟩) rn rc, .int .i64 beg, .slice tA tn tc, .int .i64 en] 33)).cell? ⟨w.heap.size + 1, 2, none⟩ = some (.slice (some ⟨br, orr, none⟩) rn rc) := B1.out.cell 2
  have v3_ : ((w.alloc (.cells #[.slice (some ⟨bl, ol, none⟩) ln lc, .slice sA sn sc, .slice qA qn qc] 25)).alloc (.cells #[.slice cA cn cc, .slice aA an ac, .slice (some ⟨br, orr, none⟩) rn rc, .int .i64 beg, .slice tA tn tc, .int .i64 en] 33)).cell? ⟨w.heap.size + 1, 3, none⟩ = some (.int .i64 beg) := B1.out.cell 3
  have v4_ : ((w.alloc (.cells #[.slice (some ⟨bl, ol, none⟩) ln lc, .slice sA sn sc, .slice qA qn qc] 25)).alloc (.cells #[.slice cA cn cc, .slice aA an ac, .slice (some ⟨br, orr, none⟩) rn rc, .int .i64 beg, .slice tA tn tc, .int .i64 en] 33)).cell? ⟨w.heap.size + 1, 4, none⟩ = some (.slice tA tn tc) := B1.out.cell 4
  have v5_ : ((w.alloc (.cells #[.slice (some ⟨bl, ol, none⟩) ln lc, .slice sA sn sc, .slice qA qn qc] 25)).alloc (.cells #[.slice cA cn cc, .slice aA an ac, .slice (some ⟨br, orr, none⟩) rn rc, .int .i64 beg, .slice tA tn tc, .int .i64 en] 33)).cell? ⟨w.heap.size + 1, 5, none⟩ = some (.int .i64 en) := B1.out.cell 5
  go_enter Try.func9, Try.ntmps9
  go_wp2_with fail
  refine (HC.out _ HX.out).mono ?_
  rintro e w1 ⟨rfl, e1⟩
  have X1 := hide (Ext.trans HX.out e1)
  have C0 := hide (B0.out.ext e1)
  have C1 := hide (B1.out.ext e1)
  clear r0_ r1_ r2_ v0_ v1_ v2_ v3_ v4_ v5_ e1 HX B0 B1 HC
  have r0_ : w1.cell? ⟨w.heap.size, 0, none⟩ = some (.slice (some ⟨bl, ol, none⟩) ln lc) := C0.out.cell 0
  have r1_ : w1.cell? ⟨w.heap.size, 1, none⟩ = some (.slice sA sn sc) := C0.out.cell 1
  have r2_ : w1.cell? ⟨w.heap.size, 2, none⟩ = some (.slice qA qn qc) := C0.out.cell 2
  have v0_ : w1.cell? ⟨w.heap.size + 1, 0, none⟩ = some (.slice cA cn cc) := C1.out.cell 0
  have v1_ : w1.cell? ⟨w.heap.size + 1, 1, none⟩ = some (.slice aA an ac) := C1.out.cell 1
  have v2_ : w1.cell? ⟨w.heap.size + 1, 2, none⟩ = some (.slice (some ⟨br, orr, none⟩) rn rc) := C1.out.cell 2
  have v3_ : w1.cell? ⟨w.heap.size + 1, 3, none⟩ = some (.int .i64 beg) := C1.out.cell 3
  have v4_ : w1.cell? ⟨w.heap.size + 1, 4, none⟩ = some (.slice tA tn tc) := C1.out.cell 4
  have v5_ : w1.cell? ⟨w.heap.size + 1, 5, none⟩ = some (.int .i64 en) := C1.out.cell 5
  go_wp2_with (first | ((go_at_call 24; with_reducible refine (out_no ?_ _).mono ?_); (focus omega); rintro e w' ⟨rfl, rfl⟩) | ((go_at_call 24; with_reducible refine (out_yes ?_ _).mono ?_); (focus omega); rintro e w' ⟨rfl, rfl⟩))
  clear r0_ r1_ r2_ v0_ v1_ v2_ v3_ v4_ v5_
  go_loopw [9, 26] (fun rs ri wr => ∃ (k : Nat) (s : Int), k ≤ rn ∧ ri = .int .i64 k ∧ rs = .int .i64 s ∧ Hid (s = levK arr L t k) ∧ Hid (Ext w1 wr)) (fun _ ri _ => rn - (intOf ri).toNat)
  case atStart => exact ⟨0, _, by omega, rfl, rfl, hide rfl, hide (Ext.refl _)⟩
  case round =>
    obtain ⟨k, s, hk, rfl, rfl, HS1, HW⟩ := hrel
    have hsb := HLB.out k (by have := HLN.out; omega)
    have hs1 : 0 ≤ s := by have := HS1.out; omega
    have hs2 : s ≤ 1000000000000 := by have := HS1.out; omega
    clear hsb
    by_cases hlt : k < rn
    · have c1 := (A3.out.ext (Ext.trans X1.out HW.out)).num hlt
      have c2 := (AL.out.ext (Ext.trans X1.out HW.out)).num (show k < ln by omega)
      have hlr := HS.out.lr k (by have := HLN.out; omega)
      have hlv := HLV.out k
      generalize arr.getD k 0 = a at *
      generalize L.getD k 0 = lv at *
      obtain ⟨hl0, hl1⟩ := hlr
      have i1 : (k : Int) < (rn : Int) := by omega
      have i2 : (k : Int) < (ln : Int) := by omega
      have i3 : (0 : Int) ≤ (k : Int) := by omega
      have r0_ : wr.cell? ⟨w.heap.size, 0, none⟩ = some (.slice (some ⟨bl, ol, none⟩) ln lc) := (C0.out.ext HW.out).cell 0
      by_cases hat : a ≤ t
      · rw [if_pos hat] at hlv
        have HLV2 := hide hlv
        clear hlv
        go_wp2_with fail
        exact ⟨⟨k + 1, _, by omega, by go_num, rfl, hide (by rw [HLV2.out, HS1.out]), hide (Ext.trans HW.out (by repeat' (first | (with_reducible exact Below.refl _ _) | (with_reducible assumption) | (with_reducible refine below_drewN ?_ _) | (with_reducible refine Below.drew ?_) | (with_reducible refine ext_alloc ?_ _) | (with_reducible refine Below.setCell ?_ ?_ _) | go_size)))⟩, by simp [intOf]; omega⟩
      · rw [if_neg hat] at hlv
        have HLV2 := hide hlv
        clear hlv
        go_wp2_with fail
        exact ⟨⟨k + 1, _, by omega, by go_num, rfl, hide (by rw [HLV2.out, HS1.out]), hide (Ext.trans HW.out (by repeat' (first | (with_reducible exact Below.refl _ _) | (with_reducible assumption) | (with_reducible refine below_drewN ?_ _) | (with_reducible refine Below.drew ?_) | (with_reducible refine ext_alloc ?_ _) | (with_reducible refine Below.setCell ?_ ?_ _) | go_size)))⟩, by simp [intOf]; omega⟩
    obtain rfl : rn = k := by omega
    have i1 : ¬ (rn : Int) < (rn : Int) := by omega
    have HS2 : Hid (s = levK arr L t L.length) := hide (by rw [HS1.out, HLN.out, HRL.out])
    have v3_ : wr.cell? ⟨w.heap.size + 1, 3, none⟩ = some (.int .i64 beg) := (C1.out.ext HW.out).cell 3
    have v4_ : wr.cell? ⟨w.heap.size + 1, 4, none⟩ = some (.slice tA tn tc) := (C1.out.ext HW.out).cell 4
    have v5_ : wr.cell? ⟨w.heap.size + 1, 5, none⟩ = some (.int .i64 en) := (C1.out.ext HW.out).cell 5
    have XW := hide (Ext.trans X1.out HW.out)
    clear HS1
    go_wp2_with fail
    refine gen_wpC fun w5 hw5 => ?_
    have X5 : Hid (Ext w w5) := hide (by rw [hw5]; exact Ext.trans XW.out (by repeat' (first | (with_reducible exact Below.refl _ _) | (with_reducible assumption) | (with_reducible refine below_drewN ?_ _) | (with_reducible refine Below.drew ?_) | (with_reducible refine ext_alloc ?_ _) | (with_reducible refine Below.setCell ?_ ?_ _) | go_size)))
    clear v3_ v4_ v5_ hw5 hlt XW HW C0 C1 X1 hk
    go_loopw [12, 53] (fun rs ri wr => ∃ (j : Nat) (p : Int), j ≤ tn ∧ ri = .int .i64 j ∧ rs = .int .i64 p ∧ Hid (p = max 0 (min t en - beg) - stS t (sts.take j)) ∧ Hid (Ext w5 wr)) (fun _ ri _ => tn - (intOf ri).toNat)
    case atStart => exact ⟨0, _, by omega, rfl, rfl, hide (by simp [stS]), hide (Ext.refl _)⟩
    case round =>
      obtain ⟨j, p, hj, rfl, rfl, HP1, HX2⟩ := hrel
      have hpb := HSB.out j (by have := HTL.out; omega)
      have hp1 : p ≤ 2000000000000 := by have := HP1.out; omega
      have hp2 : -1000000000000000 ≤ p := by have := HP1.out; omega
      clear hpb
      by_cases hlt : j < tn
      · obtain ⟨bt, ot, rfl, _⟩ := A4.out.addr (by omega)
        obtain ⟨c1, c2⟩ := (A4.out.ext (Ext.trans X5.out HX2.out)).pair hlt
        obtain ⟨g1, g2, g3⟩ := HS.out.sr j (by have := HTL.out; omega)
        have hst := HST.out j (by have := HTL.out; omega)
        generalize (sts.getD j (0, 0)).1 = t1 at *
        generalize (sts.getD j (0, 0)).2 = t2 at *
        have HST2 := hide hst
        have i1 : (j : Int) < (tn : Int) := by omega
        clear hst
        go_wp2_with fail
        exact ⟨⟨j + 1, _, by omega, by go_num, rfl, hide (by have := HP1.out; rw [HST2.out]; omega), hide (Ext.trans HX2.out (by repeat' (first | (with_reducible exact Below.refl _ _) | (with_reducible assumption) | (with_reducible refine below_drewN ?_ _) | (with_reducible refine Below.drew ?_) | (with_reducible refine ext_alloc ?_ _) | (with_reducible refine Below.setCell ?_ ?_ _) | go_size)))⟩, by simp [intOf]; omega⟩
      obtain rfl : tn = j := by omega
      have i1 : ¬ (tn : Int) < (tn : Int) := by omega
      have hpe : p = plyP beg sts en t := by have := HP1.out; rw [HFU.out] at this; rw [HPL.out]; exact this
      have hnn := HNN.out
      rw [← HS2.out, ← hpe] at hnn
      have HPE := hide hpe
      clear hpe
      go_wp2_with fail
      go_ret2
      exact ⟨by rw [HS2.out, HPE.out]; rfl, Ext.trans X5.out HX2.out⟩
end
end Go.Proofs.Ytajadgpkmommmaa
namespace Go.Proofs.Ytajadgpkmommmaa
open Go.RowKit
attribute [local go_sem ↓] Go.wp_at_zero Go.wp_at_succ
section
variable {lA : Option Addr} {ln lc : Nat} {sA : Option Addr} {sn sc : Nat} {qA : Option Addr} {qn qc : Nat} {L : List Int} {S : List (List Int)} {Q : List Int} {cA aA rA tA : Option Addr} {cn cc an ac rn rc tn tc : Nat} {ch asd arr : List Int} {sts : List (Int × Int)} {beg en : Int} {w : World}
set_option linter.unusedVariables false in
set_option maxRecDepth 100000 in
set_option maxHeartbeats 16000000 in
theorem score_ok (h : Shw w lA ln lc sA sn sc qA qn qc L S Q) (hF : filmF L S Q = 0) (hS : SesOk L S.length ch asd arr beg sts en) (a1 : At w 1 e64 cA cn cc ch) (a2 : At w 1 e64 aA an ac asd) (a3 : At w 1 e64 rA rn rc arr) (a4 : At w 2 e2 tA tn tc sts) {wc ws ww : Int} (hw : wtsF wc ws ww = 0) :
    Calls Try.prog 17 #[shV lA ln lc sA sn sc qA qn qc, .agg #[.slice cA cn cc, .slice aA an ac, .slice rA rn rc, .int .i64 beg, .slice tA tn tc, .int .i64 en], .agg #[.int .i64 wc, .int .i64 ws, .int .i64 ww]] w fun e w' => e = .returned (.tuple #[.int .i64 (scoF Q L ch sts beg wc ws ww), .int .i64 0]) ∧ Ext w w' := by
  have ok := filmF_ok hF
  have HC := hide (fun (W : World) (hW : Ext w W) => checkSession_ok (h.ext hW) hF hS (a1.ext hW) (a2.ext hW) (a3.ext hW) (a4.ext hW))
  have HWT := hide (fun (W : World) => (show Calls Try.prog 33 #[.agg #[.int .i64 wc, .int .i64 ws, .int .i64 ww]] W (fun e w' => e = .returned (.int .i64 0) ∧ Ext W w') from by have hk := keyWts_any (a := wc) (b := ws) (c := ww) (w := W); rw [hw] at hk; exact hk))
  have HSC := hide (fun (W : World) (hW : Ext w W) => keyScore_any (wc := wc) (ws := ws) (ww := ww) (cA := cA) (cn := cn) (cc := cc) (aA := aA) (an := an) (ac := ac) (rA := rA) (rn := rn) (rc := rc) (tA := tA) (tn := tn) (tc := tc) (beg := beg) (en := en) (h.ext hW) (a1.ext hW) (a4.ext hW) (by rw [hS.lc]; exact Nat.le_refl _) (fun i hi => by rw [ok.q]; exact hS.cr i (by rw [← hS.lc]; exact hi)))
  have HX : Hid (Ext w (((w.alloc (.cells #[.slice lA ln lc, .slice sA sn sc, .slice qA qn qc] 25)).alloc (.cells #[.slice cA cn cc, .slice aA an ac, .slice rA rn rc, .int .i64 beg, .slice tA tn tc, .int .i64 en] 33)).alloc (.cells #[.int .i64 wc, .int .i64 ws, .int .i64 ww] 28))) := hide (ext_alloc (ext_alloc (Ext.alloc _ _) _) _)
  have hk0 := ((Blk.new w 25 #[.slice lA ln lc, .slice sA sn sc, .slice qA qn qc]).alloc (.cells #[.slice cA cn cc, .slice aA an ac, .slice rA rn rc, .int .i64 beg, .slice tA tn tc, .int .i64 en] 33)).alloc (.cells #[.int .i64 wc, .int .i64 ws, .int .i64 ww] 28)
  have hk1 := (Blk.new (w.alloc (.cells #[.slice lA ln lc, .slice sA sn sc, .slice qA qn qc] 25)) 33 #[.slice cA cn cc, .slice aA an ac, .slice rA rn rc, .int .i64 beg, .slice tA tn tc, .int .i64 en]).alloc (.cells #[.int .i64 wc, .int .i64 ws, .int .i64 ww] 28)
  have hk2 := Blk.new ((w.alloc (.cells #[.slice lA ln lc, .slice sA sn sc, .slice qA qn qc] 25)).alloc (.cells #[.slice cA cn cc, .slice aA an ac, .slice rA rn rc, .int .i64 beg, .slice tA tn tc, .int .i64 en] 33)) 28 #[.int .i64 wc, .int .i64 ws, .int .i64 ww]
  simp only [World.size_alloc] at hk1 hk2
  have HB0 := hide hk0
  have HB1 := hide hk1
  have HB2 := hide hk2
  clear hk0 hk1 hk2 h hF hS a1 a2 a3 a4 ok hw
  generalize scoF Q L ch sts beg wc ws ww = sco at *
  go_enter Try.func17, Try.ntmps17
  go_wp2_with fail
  refine gen_wpC fun W0 h0 => ?_
  have B0 := hide (show Blk W0 w.heap.size 25 #[.slice lA ln lc, .slice sA sn sc, .slice qA qn qc] from by rw [h0]; exact HB0.out)
  have B1 := hide (show Blk W0 (w.heap.size + 1) 33 #[.slice cA cn cc, .slice aA an ac, .slice rA rn rc, .int .i64 beg, .slice tA tn tc, .int .i64 en] from by rw [h0]; exact HB1.out)
  have B2 := hide (show Blk W0 (w.heap.size + 1 + 1) 28 #[.int .i64 wc, .int .i64 ws, .int .i64 ww] from by rw [h0]; exact HB2.out)
  have X0 := hide (show Ext w W0 from by rw [h0]; exact HX.out)
  clear h0 HB0 HB1 HB2 HX
  have HS : Hid (∀ w', Ext W0 w' → w'.cell? ⟨w.heap.size, 0, none⟩ = some (.slice lA ln lc) ∧ w'.cell? ⟨w.heap.size, 1, none⟩ = some (.slice sA sn sc) ∧ w'.cell? ⟨w.heap.size, 2, none⟩ = some (.slice qA qn qc) ∧ w'.cell? ⟨w.heap.size + 1, 0, none⟩ = some (.slice cA cn cc) ∧ w'.cell? ⟨w.heap.size + 1, 1, none⟩ = some (.slice aA an ac) ∧ w'.cell? ⟨w.heap.size + 1, 2, none⟩ = some (.slice rA rn rc) ∧ w'.cell? ⟨w.heap.size + 1, 3, none⟩ = some (.int .i64 beg) ∧ w'.cell? ⟨w.heap.size + 1, 4, none⟩ = some (.slice tA tn tc) ∧ w'.cell? ⟨w.heap.size + 1, 5, none⟩ = some (.int .i64 en) ∧ w'.cell? ⟨w.heap.size + 1 + 1, 0, none⟩ = some (.int .i64 wc) ∧ w'.cell? ⟨w.heap.size + 1 + 1, 1, none⟩ = some (.int .i64 ws) ∧ w'.cell? ⟨w.heap.size + 1 + 1, 2, none⟩ = some (.int .i64 ww)) := hide (fun w' EX => ⟨EX.cell (B0.out.cell 0), EX.cell (B0.out.cell 1), EX.cell (B0.out.cell 2), EX.cell (B1.out.cell 0), EX.cell (B1.out.cell 1), EX.cell (B1.out.cell 2), EX.cell (B1.out.cell 3), EX.cell (B1.out.cell 4), EX.cell (B1.out.cell 5), EX.cell (B2.out.cell 0), EX.cell (B2.out.cell 1), EX.cell (B2.out.cell 2)⟩)
  have EX := Ext.drew W0
  go_region_held3 (fun w' => w'.cell? ⟨w.heap.size, 0, none⟩ = some (.slice lA ln lc) ∧ w'.cell? ⟨w.heap.size, 1, none⟩ = some (.slice sA sn sc) ∧ w'.cell? ⟨w.heap.size, 2, none⟩ = some (.slice qA qn qc) ∧ w'.cell? ⟨w.heap.size + 1, 0, none⟩ = some (.slice cA cn cc) ∧ w'.cell? ⟨w.heap.size + 1, 1, none⟩ = some (.slice aA an ac) ∧ w'.cell? ⟨w.heap.size + 1, 2, none⟩ = some (.slice rA rn rc) ∧ w'.cell? ⟨w.heap.size + 1, 3, none⟩ = some (.int .i64 beg) ∧ w'.cell? ⟨w.heap.size + 1, 4, none⟩ = some (.slice tA tn tc) ∧ w'.cell? ⟨w.heap.size + 1, 5, none⟩ = some (.int .i64 en) ∧ w'.cell? ⟨w.heap.size + 1 + 1, 0, none⟩ = some (.int .i64 wc) ∧ w'.cell? ⟨w.heap.size + 1 + 1, 1, none⟩ = some (.int .i64 ws) ∧ w'.cell? ⟨w.heap.size + 1 + 1, 2, none⟩ = some (.int .i64 ww)) (first
    | (with_reducible exact HS.out _ EX)
    | (with_reducible exact HS.out _ (Ext.trans EX (Ext.alloc _ _)))) (first
    | (go_at_call 15; (with_reducible refine (HC.out _ (Ext.trans X0.out EX)).mono ?_); rintro e w5 ⟨rfl, e5⟩; have EX := Ext.trans EX e5; clear e5)
    | (go_at_call 33; (with_reducible refine (HWT.out _).mono ?_); rintro e w5 ⟨rfl, e5⟩; have EX := Ext.trans EX e5; clear e5)
    | (go_at_call 37; (with_reducible refine (first_any (At.new2 _ 0 0 34)).mono ?_); rintro e w6 ⟨rfl, e6⟩; have EX := Ext.trans (Ext.trans EX (Ext.alloc _ _)) e6; clear e6))
  all_goals (
    refine gen_the fun W1 h1 => ?_
    have X1 := hide (show Ext W0 W1 from by rw [h1]; exact EX)
    clear h1 EX HS
    have r0_ : W1.cell? ⟨w.heap.size, 0, none⟩ = some (.slice lA ln lc) := (B0.out.ext X1.out).cell 0
    have r1_ : W1.cell? ⟨w.heap.size, 1, none⟩ = some (.slice sA sn sc) := (B0.out.ext X1.out).cell 1
    have r2_ : W1.cell? ⟨w.heap.size, 2, none⟩ = some (.slice qA qn qc) := (B0.out.ext X1.out).cell 2
    have v0_ : W1.cell? ⟨w.heap.size + 1, 0, none⟩ = some (.slice cA cn cc) := (B1.out.ext X1.out).cell 0
    have v1_ : W1.cell? ⟨w.heap.size + 1, 1, none⟩ = some (.slice aA an ac) := (B1.out.ext X1.out).cell 1
    have v2_ : W1.cell? ⟨w.heap.size + 1, 2, none⟩ = some (.slice rA rn rc) := (B1.out.ext X1.out).cell 2
    have v3_ : W1.cell? ⟨w.heap.size + 1, 3, none⟩ = some (.int .i64 beg) := (B1.out.ext X1.out).cell 3
    have v4_ : W1.cell? ⟨w.heap.size + 1, 4, none⟩ = some (.slice tA tn tc) := (B1.out.ext X1.out).cell 4
    have v5_ : W1.cell? ⟨w.heap.size + 1, 5, none⟩ = some (.int .i64 en) := (B1.out.ext X1.out).cell 5
    have y0_ : W1.cell? ⟨w.heap.size + 1 + 1, 0, none⟩ = some (.int .i64 wc) := (B2.out.ext X1.out).cell 0
    have y1_ : W1.cell? ⟨w.heap.size + 1 + 1, 1, none⟩ = some (.int .i64 ws) := (B2.out.ext X1.out).cell 1
    have y2_ : W1.cell? ⟨w.heap.size + 1 + 1, 2, none⟩ = some (.int .i64 ww) := (B2.out.ext X1.out).cell 2
    have hf : firstNZ [0, 0] = 0 := rfl
    rw [hf]
    clear hf
    go_wp2_with fail
    refine (HSC.out _ (Ext.trans X0.out X1.out)).mono ?_
    rintro e w7 ⟨rfl, e7⟩
    go_wp2_with fail
    go_ret2
    exact ⟨rfl, Ext.trans X0.out (Ext.trans X1.out e7)⟩)
end
end Go.Proofs.Ytajadgpkmommmaa
