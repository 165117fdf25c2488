/- Walks: answer of the program, where it turns nothing. Conditions: as stated. -/
import Derived.Test.YtfpmjaeehhegcaaAnsK
namespace Go.Proofs.Ytfpmjaeehhegcaa
open Go.RowKit
section
variable {o B : Nat} {sA hA : Option Addr} {sn sc hn hc : Nat} {L : List SeatV} {hs : List HeldV} {t kd : Int} {u s : ByteArray} {w : World}
set_option maxRecDepth 100000 in
set_option maxHeartbeats 4000000 in
theorem keyAns_state {k : Nat} (h : OffAt w o B sA sn sc L hA hn hc hs) (hk : L.findIdx? (seatP u) = some k) (ht : 0 ≤ t ∧ t ≤ 1000000000000000) (hg : 1 ≤ (L.getD k d0S).2.2 ∧ (L.getD k d0S).2.2 ≤ 1000000000000000) (hi : hs.findIdx? (heldP u s t) = none) (hq : kd ≠ 1) :
    Calls Try.prog 24 #[.pointer (some ⟨o, 0, none⟩), .agg #[.int .i64 t, .string u, .string s, .int .i64 kd]] w (OffGives w o B sA sn sc L (Value.slice hA hn hc).ownBlock ((11, 0), hs)) := by
  have HX : Hid (Ext w ((w.alloc (.cells #[.int .i64 t, .string u, .string s, .int .i64 kd] 33)).alloc (.cells #[.int .i64 0, .int .i64 0] 37))) := hide (ext_alloc (Ext.alloc _ _) _)
  have HCL := hide (fun (W : World) hW => ans_cells w t u s kd (W := W) hW)
  have HI := hide (fun (W : World) (hW : Ext ((w.alloc (.cells #[.int .i64 t, .string u, .string s, .int .i64 kd] 33)).alloc (.cells #[.int .i64 0, .int .i64 0] 37)) W) =>
    idxS_any (ptr := .pointer (some ⟨w.heap.size, 0, none⟩)) (p := seatP u) (enters_of Try.func43 (by kernel_rfl) rfl) (fun x W' hW' => clo1_any x W' (HCL.out W' (Ext.trans hW hW')).1.2.1) (h.seats.ext (Ext.trans HX.out hW)))
  rw [idx_some hk] at HI
  have HJ := hide (fun (W : World) (hW : Ext ((w.alloc (.cells #[.int .i64 t, .string u, .string s, .int .i64 kd] 33)).alloc (.cells #[.int .i64 0, .int .i64 0] 37)) W) =>
    idxH_any (ptr := .pointer (some ⟨w.heap.size, 0, none⟩)) (p := heldP u s t) (enters_of Try.func45 (by kernel_rfl) rfl) (fun x W' hW' => clo2_any x W' (HCL.out W' (Ext.trans hW hW')).1.1 (HCL.out W' (Ext.trans hW hW')).1.2.1 (HCL.out W' (Ext.trans hW hW')).1.2.2.1) ((h.own.ext (Ext.trans HX.out hW)).atS len_eHd))
  rw [idx_none hi] at HJ
  have hks : k < sn := by
    have := (List.findIdx?_eq_some_iff_getElem.1 hk).1
    have := h.seats.len; omega
  have HSC := hide (fun (W : World) (hW : Ext w W) => (h.seats.ext hW))
  have HO := hide (fun (W : World) (hW : Ext w W) => (h.blk.ext hW))
  have hbs := h.seats.bound
  have hbh := (h.own.atS len_eHd).bound
  obtain ⟨b, off, rfl, hcl0⟩ := h.seats.addr (by omega)
  clear hcl0
  have H := hide h
  have o0 := (h.blk.ext HX.out).cell 0
  have o1 := (h.blk.ext HX.out).cell 1
  have g1 : (kd != 1) = true := by rw [bne_iff_ne]; exact hq
  clear hi hq
  clear h hk
  generalize hx : L.getD k d0S = x at *
  have HXX := hide hx
  obtain ⟨xu, xm, xg⟩ := x
  simp only at hg
  have q1 : (0 : Int) ≤ (k : Int) := by omega
  have q2 : (k : Int) < (sn : Int) := by omega
  obtain ⟨ht1, ht2⟩ := ht
  obtain ⟨hg1, hg2⟩ := hg
  clear hx
  go_enter Try.func24, Try.ntmps24
  go_wp2_with fail
  refine (HI.out _ (Ext.refl _)).mono ?_
  rintro e w1 ⟨rfl, e1⟩
  have E1 := hide e1
  clear e1 o0 o1
  have o0 := (HO.out w1 (Ext.trans HX.out E1.out)).cell 0
  have o1 := ((HO.out w1 (Ext.trans HX.out E1.out)).alloc (.cells #[.string xu, .int .i64 xm, .int .i64 xg] 61)).cell 1
  have s0 := (HSC.out w1 (Ext.trans HX.out E1.out)).cellK hks d0S 0 _ rfl
  have s1 := (HSC.out w1 (Ext.trans HX.out E1.out)).cellK hks d0S 1 _ rfl
  have s2 := (HSC.out w1 (Ext.trans HX.out E1.out)).cellK hks d0S 2 _ rfl
  rw [HXX.out] at s0 s1 s2
  simp only [Nat.add_zero] at s0 s1 s2
  go_wp2_with fail
  refine (HJ.out _ (Ext.trans E1.out (by repeat' (first | (with_reducible exact Below.refl _ _) | (with_reducible assumption) | (with_reducible refine below_drewN ?_ _) | (with_reducible refine Below.drew ?_) | (with_reducible refine ext_alloc ?_ _) | (with_reducible refine Below.setCell ?_ ?_ _) | go_size)))).mono ?_
  rintro e w2 ⟨rfl, e2⟩
  have E2 := hide (Ext.trans (Ext.trans E1.out (Ext.alloc _ _)) e2)
  have sb := (Blk.new w1 61 #[.string xu, .int .i64 xm, .int .i64 xg]).ext e2
  have p1 := sb.cell 1
  have p2 := sb.cell 2
  have SB := hide sb
  clear e2 sb o0 o1 s0 s1 s2
  obtain ⟨⟨a0, a1, a2, a3⟩, ⟨c0, c1⟩, ⟨f0, f1⟩, z1, b1⟩ := HCL.out w2 E2.out
  have o0 := (HO.out w2 (Ext.trans HX.out E2.out)).cell 0
  have o1 := (HO.out w2 (Ext.trans HX.out E2.out)).cell 1
  have HB := hide b1
  clear b1
  go_wp2_with fail
  refine gen_body fun W3 h3 => ?_
  have B3 : Blk W3 (w.heap.size + 1) 37 #[.int .i64 11, .int .i64 0] := by rw [h3]; exact (HB.out.set_ 0 _).set_ 1 _
  have E3 : Ext w W3 := by
    have ew := Ext.trans HX.out E2.out
    rw [h3]
    exact (by repeat' (first | (with_reducible exact Below.refl _ _) | (with_reducible assumption) | (with_reducible refine below_drewN ?_ _) | (with_reducible refine Below.drew ?_) | (with_reducible refine ext_alloc ?_ _) | (with_reducible refine Below.setCell ?_ ?_ _) | go_size))
  have k0 := B3.cell 0
  have k1 := B3.cell 1
  clear h3 a0 a1 a2 a3 c0 c1 f0 f1 z1
  refine bodyPost_ret (v := .agg #[.int .i64 11, .int .i64 0]) (by simp [results, Try.results24, go_sem, k0, k1]) rfl ⟨_, _, _, rfl, H.out.ext E3, Fr.of_ext E3 _ _, .inl rfl⟩
set_option maxRecDepth 100000 in
set_option maxHeartbeats 4000000 in
theorem keyAns_full {k : Nat} (h : OffAt w o B sA sn sc L hA hn hc hs) (hk : L.findIdx? (seatP u) = some k) (ht : 0 ≤ t ∧ t ≤ 1000000000000000) (hg : 1 ≤ (L.getD k d0S).2.2 ∧ (L.getD k d0S).2.2 ≤ 1000000000000000) (hi : hs.findIdx? (heldP u s t) = none) (hq : kd = 1) (hf : (L.getD k d0S).2.1 ≤ (lastN hs u t : Nat)) :
    Calls Try.prog 24 #[.pointer (some ⟨o, 0, none⟩), .agg #[.int .i64 t, .string u, .string s, .int .i64 kd]] w (OffGives w o B sA sn sc L (Value.slice hA hn hc).ownBlock ((17, 0), hs)) := by
  have HX : Hid (Ext w ((w.alloc (.cells #[.int .i64 t, .string u, .string s, .int .i64 kd] 33)).alloc (.cells #[.int .i64 0, .int .i64 0] 37))) := hide (ext_alloc (Ext.alloc _ _) _)
  have HCL := hide (fun (W : World) hW => ans_cells w t u s kd (W := W) hW)
  have HI := hide (fun (W : World) (hW : Ext ((w.alloc (.cells #[.int .i64 t, .string u, .string s, .int .i64 kd] 33)).alloc (.cells #[.int .i64 0, .int .i64 0] 37)) W) =>
    idxS_any (ptr := .pointer (some ⟨w.heap.size, 0, none⟩)) (p := seatP u) (enters_of Try.func43 (by kernel_rfl) rfl) (fun x W' hW' => clo1_any x W' (HCL.out W' (Ext.trans hW hW')).1.2.1) (h.seats.ext (Ext.trans HX.out hW)))
  rw [idx_some hk] at HI
  have HJ := hide (fun (W : World) (hW : Ext ((w.alloc (.cells #[.int .i64 t, .string u, .string s, .int .i64 kd] 33)).alloc (.cells #[.int .i64 0, .int .i64 0] 37)) W) =>
    idxH_any (ptr := .pointer (some ⟨w.heap.size, 0, none⟩)) (p := heldP u s t) (enters_of Try.func45 (by kernel_rfl) rfl) (fun x W' hW' => clo2_any x W' (HCL.out W' (Ext.trans hW hW')).1.1 (HCL.out W' (Ext.trans hW hW')).1.2.1 (HCL.out W' (Ext.trans hW hW')).1.2.2.1) ((h.own.ext (Ext.trans HX.out hW)).atS len_eHd))
  rw [idx_none hi] at HJ
  have hks : k < sn := by
    have := (List.findIdx?_eq_some_iff_getElem.1 hk).1
    have := h.seats.len; omega
  have HSC := hide (fun (W : World) (hW : Ext w W) => (h.seats.ext hW))
  have HO := hide (fun (W : World) (hW : Ext w W) => (h.blk.ext hW))
  have hbs := h.seats.bound
  have hbh := (h.own.atS len_eHd).bound
  obtain ⟨b, off, rfl, hcl0⟩ := h.seats.addr (by omega)
  clear hcl0
  have H := hide h
  have o0 := (h.blk.ext HX.out).cell 0
  have o1 := (h.blk.ext HX.out).cell 1
  have g1 : (kd != 1) = false := by simp [hq]
  have HLA := hide (fun (W : World) (hW : Ext w W) => keyLasting_any ((h.blk.ext hW).cell 1) ((h.own.ext hW).atS len_eHd) u t)
  generalize lastN hs u t = ln at *
  clear hi hq
  clear h hk
  generalize hx : L.getD k d0S = x at *
  have HXX := hide hx
  obtain ⟨xu, xm, xg⟩ := x
  simp only at hg
  have q1 : (0 : Int) ≤ (k : Int) := by omega
  have q2 : (k : Int) < (sn : Int) := by omega
  obtain ⟨ht1, ht2⟩ := ht
  obtain ⟨hg1, hg2⟩ := hg
  simp only at hf
  have g2 : decide (xm ≤ (ln : Int)) = true := by simpa using hf
  clear hf
  clear hx
  go_enter Try.func24, Try.ntmps24
  go_wp2_with fail
  refine (HI.out _ (Ext.refl _)).mono ?_
  rintro e w1 ⟨rfl, e1⟩
  have E1 := hide e1
  clear e1 o0 o1
  have o0 := (HO.out w1 (Ext.trans HX.out E1.out)).cell 0
  have o1 := ((HO.out w1 (Ext.trans HX.out E1.out)).alloc (.cells #[.string xu, .int .i64 xm, .int .i64 xg] 61)).cell 1
  have s0 := (HSC.out w1 (Ext.trans HX.out E1.out)).cellK hks d0S 0 _ rfl
  have s1 := (HSC.out w1 (Ext.trans HX.out E1.out)).cellK hks d0S 1 _ rfl
  have s2 := (HSC.out w1 (Ext.trans HX.out E1.out)).cellK hks d0S 2 _ rfl
  rw [HXX.out] at s0 s1 s2
  simp only [Nat.add_zero] at s0 s1 s2
  go_wp2_with fail
  refine (HJ.out _ (Ext.trans E1.out (by repeat' (first | (with_reducible exact Below.refl _ _) | (with_reducible assumption) | (with_reducible refine below_drewN ?_ _) | (with_reducible refine Below.drew ?_) | (with_reducible refine ext_alloc ?_ _) | (with_reducible refine Below.setCell ?_ ?_ _) | go_size)))).mono ?_
  rintro e w2 ⟨rfl, e2⟩
  have E2 := hide (Ext.trans (Ext.trans E1.out (Ext.alloc _ _)) e2)
  have sb := (Blk.new w1 61 #[.string xu, .int .i64 xm, .int .i64 xg]).ext e2
  have p1 := sb.cell 1
  have p2 := sb.cell 2
  have SB := hide sb
  clear e2 sb o0 o1 s0 s1 s2
  obtain ⟨⟨a0, a1, a2, a3⟩, ⟨c0, c1⟩, ⟨f0, f1⟩, z1, b1⟩ := HCL.out w2 E2.out
  have o0 := (HO.out w2 (Ext.trans HX.out E2.out)).cell 0
  have o1 := (HO.out w2 (Ext.trans HX.out E2.out)).cell 1
  have HB := hide b1
  clear b1
  go_wp2_with fail
  have hx2 := Ext.trans HX.out E2.out
  have EX := Ext.drew w2
  go_region_held3 (fun w' => w'.cell? ⟨w.heap.size, 0, none⟩ = some (.int .i64 t) ∧ w'.cell? ⟨w.heap.size, 1, none⟩ = some (.string u) ∧ w'.cell? ⟨w1.heap.size, 1, none⟩ = some (.int .i64 xm)) (first | go_keep | exact ⟨EX.cell a0, EX.cell a1, EX.cell p1⟩) (first | ((go_at_call 29; with_reducible refine (HLA.out _ (Ext.trans hx2 EX)).mono ?_); rintro e w5 ⟨rfl, e5⟩; have EX := Ext.trans EX e5))
  have E5 := hide (Ext.trans E2.out EX)
  have p2' := EX.cell p2
  clear hx2 a0 a1 a2 a3 c0 c1 f0 f1 z1 o0 o1 p1 p2 HB
  obtain ⟨⟨a0, a1, a2, a3⟩, ⟨c0, c1⟩, ⟨f0, f1⟩, z1, b1⟩ := HCL.out _ E5.out
  have o0 := (HO.out _ (Ext.trans HX.out E5.out)).cell 0
  have o1 := (HO.out _ (Ext.trans HX.out E5.out)).cell 1
  have HB := hide b1
  clear b1 EX
  go_wp2_with fail
  refine gen_body fun W3 h3 => ?_
  have B3 : Blk W3 (w.heap.size + 1) 37 #[.int .i64 17, .int .i64 0] := by rw [h3]; exact (HB.out.set_ 0 _).set_ 1 _
  have E3 : Ext w W3 := by
    have ew := Ext.trans HX.out E5.out
    rw [h3]
    exact (by repeat' (first | (with_reducible exact Below.refl _ _) | (with_reducible assumption) | (with_reducible refine below_drewN ?_ _) | (with_reducible refine Below.drew ?_) | (with_reducible refine ext_alloc ?_ _) | (with_reducible refine Below.setCell ?_ ?_ _) | go_size))
  have k0 := B3.cell 0
  have k1 := B3.cell 1
  clear h3 a0 a1 a2 a3 c0 c1 f0 f1 z1
  refine bodyPost_ret (v := .agg #[.int .i64 17, .int .i64 0]) (by simp [results, Try.results24, go_sem, k0, k1]) rfl ⟨_, _, _, rfl, H.out.ext E3, Fr.of_ext E3 _ _, .inl rfl⟩
end
end Go.Proofs.Ytfpmjaeehhegcaa
