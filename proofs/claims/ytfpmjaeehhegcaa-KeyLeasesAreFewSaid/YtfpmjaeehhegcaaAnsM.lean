/- Walks: answer of the program, where a lease is told anew. Conditions: as stated. -/
import Derived.Test.YtfpmjaeehhegcaaAnsL
namespace Go.Proofs.Ytfpmjaeehhegcaa
open Go.RowKit
section
variable {o B : Nat} {sA hA : Option Addr} {sn sc hn hc : Nat} {L : List SeatV} {hs : List HeldV} {t kd : Int} {u s : ByteArray} {w : World}
set_option maxRecDepth 100000 in
set_option maxHeartbeats 4000000 in
theorem keyAns_stop {k i : Nat} (h : OffAt w o B sA sn sc L hA hn hc hs) (hk : L.findIdx? (seatP u) = some k) (ht : 0 ≤ t ∧ t ≤ 1000000000000000) (hg : 1 ≤ (L.getD k d0S).2.2 ∧ (L.getD k d0S).2.2 ≤ 1000000000000000) (hi : hs.findIdx? (heldP u s t) = some i) (hq : kd = 3) :
    Calls Try.prog 24 #[.pointer (some ⟨o, 0, none⟩), .agg #[.int .i64 t, .string u, .string s, .int .i64 kd]] w (OffGives w o B sA sn sc L (Value.slice hA hn hc).ownBlock ((0, t), hs.set i (u, s, t))) := by
  have HX : Hid (Ext w ((w.alloc (.cells #[.int .i64 t, .string u, .string s, .int .i64 kd] 33)).alloc (.cells #[.int .i64 0, .int .i64 0] 37))) := hide (ext_alloc (Ext.alloc _ _) _)
  have HCL := hide (fun (W : World) hW => ans_cells w t u s kd (W := W) hW)
  have HI := hide (fun (W : World) (hW : Ext ((w.alloc (.cells #[.int .i64 t, .string u, .string s, .int .i64 kd] 33)).alloc (.cells #[.int .i64 0, .int .i64 0] 37)) W) =>
    idxS_any (ptr := .pointer (some ⟨w.heap.size, 0, none⟩)) (p := seatP u) (enters_of Try.func43 (by kernel_rfl) rfl) (fun x W' hW' => clo1_any x W' (HCL.out W' (Ext.trans hW hW')).1.2.1) (h.seats.ext (Ext.trans HX.out hW)))
  rw [idx_some hk] at HI
  have HJ := hide (fun (W : World) (hW : Ext ((w.alloc (.cells #[.int .i64 t, .string u, .string s, .int .i64 kd] 33)).alloc (.cells #[.int .i64 0, .int .i64 0] 37)) W) =>
    idxH_any (ptr := .pointer (some ⟨w.heap.size, 0, none⟩)) (p := heldP u s t) (enters_of Try.func45 (by kernel_rfl) rfl) (fun x W' hW' => clo2_any x W' (HCL.out W' (Ext.trans hW hW')).1.1 (HCL.out W' (Ext.trans hW hW')).1.2.1 (HCL.out W' (Ext.trans hW hW')).1.2.2.1) ((h.own.ext (Ext.trans HX.out hW)).atS len_eHd))
  rw [idx_some hi] at HJ
  have hks : k < sn := by
    have := (List.findIdx?_eq_some_iff_getElem.1 hk).1
    have := h.seats.len; omega
  have HSC := hide (fun (W : World) (hW : Ext w W) => (h.seats.ext hW))
  have HO := hide (fun (W : World) (hW : Ext w W) => (h.blk.ext hW))
  have hbs := h.seats.bound
  have hbh := (h.own.atS len_eHd).bound
  obtain ⟨b, off, rfl, hcl0⟩ := h.seats.addr (by omega)
  clear hcl0
  have H := hide h
  have o0 := (h.blk.ext HX.out).cell 0
  have o1 := (h.blk.ext HX.out).cell 1
  have HF := hide (find_held hi)
  have HLN := hide (h.own.atS len_eHd).len
  have hih : i < hn := by have := HF.out.1; have := HLN.out; omega
  have q3 : (0 : Int) ≤ (i : Int) := by omega
  have q4 : (i : Int) < (hn : Int) := by omega
  have q5 : decide ((i : Int) < 0) = false := by simp
  have hbB := h.sb _ _ (by omega) rfl
  obtain ⟨g, rfl, hgB, hgl⟩ := h.own.where_ (by omega) HLN.out
  have hoB := h.lt
  have HOW := hide h.own
  have g1 : (kd == 3) = true := by simp [hq]
  clear hi hq
  clear h hk
  generalize hx : L.getD k d0S = x at *
  have HXX := hide hx
  obtain ⟨xu, xm, xg⟩ := x
  simp only at hg
  have q1 : (0 : Int) ≤ (k : Int) := by omega
  have q2 : (k : Int) < (sn : Int) := by omega
  obtain ⟨ht1, ht2⟩ := ht
  obtain ⟨hg1, hg2⟩ := hg
  clear hx
  go_enter Try.func24, Try.ntmps24
  go_wp2_with fail
  refine (HI.out _ (Ext.refl _)).mono ?_
  rintro e w1 ⟨rfl, e1⟩
  have E1 := hide e1
  clear e1 o0 o1
  have o0 := (HO.out w1 (Ext.trans HX.out E1.out)).cell 0
  have o1 := ((HO.out w1 (Ext.trans HX.out E1.out)).alloc (.cells #[.string xu, .int .i64 xm, .int .i64 xg] 61)).cell 1
  have s0 := (HSC.out w1 (Ext.trans HX.out E1.out)).cellK hks d0S 0 _ rfl
  have s1 := (HSC.out w1 (Ext.trans HX.out E1.out)).cellK hks d0S 1 _ rfl
  have s2 := (HSC.out w1 (Ext.trans HX.out E1.out)).cellK hks d0S 2 _ rfl
  rw [HXX.out] at s0 s1 s2
  simp only [Nat.add_zero] at s0 s1 s2
  go_wp2_with fail
  refine (HJ.out _ (Ext.trans E1.out (by repeat' (first | (with_reducible exact Below.refl _ _) | (with_reducible assumption) | (with_reducible refine below_drewN ?_ _) | (with_reducible refine Below.drew ?_) | (with_reducible refine ext_alloc ?_ _) | (with_reducible refine Below.setCell ?_ ?_ _) | go_size)))).mono ?_
  rintro e w2 ⟨rfl, e2⟩
  have E2 := hide (Ext.trans (Ext.trans E1.out (Ext.alloc _ _)) e2)
  have sb := (Blk.new w1 61 #[.string xu, .int .i64 xm, .int .i64 xg]).ext e2
  have p1 := sb.cell 1
  have p2 := sb.cell 2
  have SB := hide sb
  clear e2 sb o0 o1 s0 s1 s2
  obtain ⟨⟨a0, a1, a2, a3⟩, ⟨c0, c1⟩, ⟨f0, f1⟩, z1, b1⟩ := HCL.out w2 E2.out
  have o0 := (HO.out w2 (Ext.trans HX.out E2.out)).cell 0
  have o1 := (HO.out w2 (Ext.trans HX.out E2.out)).cell 1
  have HB := hide b1
  clear b1
  go_wp2_with fail
  go_quiet (fail)
  go_wp2_with fail
  refine gen_wp4 fun w4 h4 => ?_
  have E4 : Hid (Ext ((w.alloc (.cells #[.int .i64 t, .string u, .string s, .int .i64 kd] 33)).alloc (.cells #[.int .i64 0, .int .i64 0] 37)) w4) := hide (by rw [h4]; exact below_drewN E2.out _)
  have X4 := hide (Ext.trans HX.out E4.out)
  have p2' : w4.cell? ⟨w1.heap.size, 2, none⟩ = some (.int .i64 xg) := by rw [h4]; exact p2
  clear h4 a0 a1 a2 a3 c0 c1 f0 f1 z1 o0 o1 p1 p2 HB
  obtain ⟨⟨a0, a1, a2, a3⟩, ⟨c0, c1⟩, ⟨f0, f1⟩, z1, b1⟩ := HCL.out w4 E4.out
  have HB := hide b1
  have o1 := (HO.out w4 X4.out).cell 1
  have v2 := ((HOW.out.ext X4.out).atS len_eHd).cellK hih d0H 2 _ rfl
  simp only [Nat.zero_add] at v2
  have fz := (HOW.out.ext X4.out).frozen3 (i * 3 + 2)
  have hwr : IntKind.i64.wrap (t + xg) = t + xg := by rw [IntKind.wrap_i64]; omega
  clear b1 c0 c1 f0 f1 z1 a1 a2 a3
  go_region
  go_upto_region 16 with (fail)
  refine gen_wp4 fun w5 h5 => ?_
  have hls : hs.set i ((hs.getD i d0H).1, (hs.getD i d0H).2.1, t) = hs.set i (u, s, t) := by
    obtain ⟨hi1, hi2, hi3, _⟩ := HF.out
    rw [show hs.getD i d0H = hs[i] by simp [List.getD, hi1], hi2, hi3]
  have HO4 := HOW.out.ext X4.out
  have O5 := hide (show Own w5 B 83 3 eHd (.slice (some ⟨g, 0, none⟩) hn hc) (hs.set i (u, s, t)) from by
    rw [h5, ← hls]
    first
      | exact (HO4.set3 i t).ext (Ext.drew _)
      | exact (HO4.ext (Ext.drew _)).set3 i t)
  have hog : o ≠ g := by omega
  have hrg : w.heap.size + 1 ≠ g := by omega
  have BO5 := hide (show Blk w5 o 55 #[.slice (some ⟨b, off, none⟩) sn sc, .slice (some ⟨g, 0, none⟩) hn hc] from by rw [h5]; exact (HO.out w4 X4.out).far hog _)
  have B5 := hide (show Blk w5 (w.heap.size + 1) 37 #[.int .i64 0, .int .i64 0] from by rw [h5]; exact HB.out.far hrg _)
  have G5 : Hid (w4.grownBy w5 (some g)) := hide (by
    rw [h5]
    exact ⟨rfl, rfl, rfl, by simp [World.setCell], fun k _ hk => Below.heap_setCell _ _ _ k (fun h => hk (by rw [h]))⟩)
  have vv := (O5.out.atS len_eHd).cellK hih d0H 2 (.int .i64 (t)) (by
    have := HF.out.1
    simp [List.getD, this, eHd])
  simp only [Nat.zero_add] at vv
  have c0 := B5.out.cell 0
  have c1 := B5.out.cell 1
  have f0 := B5.out.frozen 0
  have f1 := B5.out.frozen 1
  have z1 := B5.out.lt
  have o1' := BO5.out.cell 1
  clear h5 hls HO4 a0 o1 v2 fz p2' hwr
  go_wp2_with fail
  refine gen_body fun W3 h3 => ?_
  have B3 : Blk W3 (w.heap.size + 1) 37 #[.int .i64 0, .int .i64 (t)] := by rw [h3]; exact (B5.out.set_ 0 _).set_ 1 _
  have hor : o ≠ w.heap.size + 1 := by have := H.out.blk.lt; omega
  have BO3 : Blk W3 o 55 #[.slice (some ⟨b, off, none⟩) sn sc, .slice (some ⟨g, 0, none⟩) hn hc] := by rw [h3]; exact (BO5.out.far hor _).far hor _
  have hgn : (Value.slice (some ⟨g, 0, none⟩) hn hc).ownBlock ≠ some (w.heap.size + 1) := by
    intro h
    injection h with h
    exact hrg h.symm
  have O3 : Own W3 B 83 3 eHd (.slice (some ⟨g, 0, none⟩) hn hc) (hs.set i (u, s, t)) := by
    rw [h3]
    exact (O5.out.kept (grown_set3 w5 (w.heap.size + 1) 0 (.int .i64 0)) (.inr hgn)).kept (grown_set3 _ (w.heap.size + 1) 1 (.int .i64 (t))) (.inr hgn)
  have S4 := (HSC.out w4 X4.out).grown4 G5.out (fun a ha => by injection ha with ha; subst ha; intro h; injection h with h; simp at h; omega)
  have hbl : b < w.heap.size := by omega
  have S3 : At W3 3 eS (some ⟨b, off, none⟩) sn sc L := by
    rw [h3]
    exact ((S4.grown4 (grown_set3 w5 (w.heap.size + 1) 0 (.int .i64 0)) (fun a ha => by injection ha with ha; subst ha; intro h; injection h with h; simp at h; omega)).grown4 (grown_set3 _ (w.heap.size + 1) 1 (.int .i64 (t))) (fun a ha => by injection ha with ha; subst ha; intro h; injection h with h; simp at h; omega))
  have F3 : Fr w W3 o (some g) := by
    rw [h3]
    refine ⟨by exact (G5.out.os.trans X4.out.os), by exact (G5.out.tape.trans X4.out.tape), by exact (G5.out.output.trans X4.out.output), ?_, fun k hk hko hkg => ?_⟩
    · have h1 := G5.out.size; have h2 := X4.out.size; simp [World.setCell]; omega
    · rw [Below.heap_setCell _ _ _ k (by show k ≠ w.heap.size + 1; omega), Below.heap_setCell _ _ _ k (by show k ≠ w.heap.size + 1; omega)]
      exact (G5.out.block k (by have := X4.out.size; omega) hkg).trans (X4.out.block k hk)
  have k0 := B3.cell 0
  have k1 := B3.cell 1
  clear h3 c0 c1 f0 f1 z1 vv o1'
  refine bodyPost_ret (v := .agg #[.int .i64 0, .int .i64 (t)]) (by simp [results, Try.results24, go_sem, k0, k1]) rfl ⟨_, _, _, rfl, ⟨BO3, S3, O3, hoB, H.out.sb⟩, F3, .inl rfl⟩
set_option maxRecDepth 100000 in
set_option maxHeartbeats 4000000 in
theorem keyAns_keep {k i : Nat} (h : OffAt w o B sA sn sc L hA hn hc hs) (hk : L.findIdx? (seatP u) = some k) (ht : 0 ≤ t ∧ t ≤ 1000000000000000) (hg : 1 ≤ (L.getD k d0S).2.2 ∧ (L.getD k d0S).2.2 ≤ 1000000000000000) (hi : hs.findIdx? (heldP u s t) = some i) (hq : kd ≠ 3) :
    Calls Try.prog 24 #[.pointer (some ⟨o, 0, none⟩), .agg #[.int .i64 t, .string u, .string s, .int .i64 kd]] w (OffGives w o B sA sn sc L (Value.slice hA hn hc).ownBlock ((0, t + (L.getD k d0S).2.2), hs.set i (u, s, t + (L.getD k d0S).2.2))) := by
  have HX : Hid (Ext w ((w.alloc (.cells #[.int .i64 t, .string u, .string s, .int .i64 kd] 33)).alloc (.cells #[.int .i64 0, .int .i64 0] 37))) := hide (ext_alloc (Ext.alloc _ _) _)
  have HCL := hide (fun (W : World) hW => ans_cells w t u s kd (W := W) hW)
  have HI := hide (fun (W : World) (hW : Ext ((w.alloc (.cells #[.int .i64 t, .string u, .string s, .int .i64 kd] 33)).alloc (.cells #[.int .i64 0, .int .i64 0] 37)) W) =>
    idxS_any (ptr := .pointer (some ⟨w.heap.size, 0, none⟩)) (p := seatP u) (enters_of Try.func43 (by kernel_rfl) rfl) (fun x W' hW' => clo1_any x W' (HCL.out W' (Ext.trans hW hW')).1.2.1) (h.seats.ext (Ext.trans HX.out hW)))
  rw [idx_some hk] at HI
  have HJ := hide (fun (W : World) (hW : Ext ((w.alloc (.cells #[.int .i64 t, .string u, .string s, .int .i64 kd] 33)).alloc (.cells #[.int .i64 0, .int .i64 0] 37)) W) =>
    idxH_any (ptr := .pointer (some ⟨w.heap.size, 0, none⟩)) (p := heldP u s t) (enters_of Try.func45 (by kernel_rfl) rfl) (fun x W' hW' => clo2_any x W' (HCL.out W' (Ext.trans hW hW')).1.1 (HCL.out W' (Ext.trans hW hW')).1.2.1 (HCL.out W' (Ext.trans hW hW')).1.2.2.1) ((h.own.ext (Ext.trans HX.out hW)).atS len_eHd))
  rw [idx_some hi] at HJ
  have hks : k < sn := by
    have := (List.findIdx?_eq_some_iff_getElem.1 hk).1
    have := h.seats.len; omega
  have HSC := hide (fun (W : World) (hW : Ext w W) => (h.seats.ext hW))
  have HO := hide (fun (W : World) (hW : Ext w W) => (h.blk.ext hW))
  have hbs := h.seats.bound
  have hbh := (h.own.atS len_eHd).bound
  obtain ⟨b, off, rfl, hcl0⟩ := h.seats.addr (by omega)
  clear hcl0
  have H := hide h
  have o0 := (h.blk.ext HX.out).cell 0
  have o1 := (h.blk.ext HX.out).cell 1
  have HF := hide (find_held hi)
  have HLN := hide (h.own.atS len_eHd).len
  have hih : i < hn := by have := HF.out.1; have := HLN.out; omega
  have q3 : (0 : Int) ≤ (i : Int) := by omega
  have q4 : (i : Int) < (hn : Int) := by omega
  have q5 : decide ((i : Int) < 0) = false := by simp
  have hbB := h.sb _ _ (by omega) rfl
  obtain ⟨g, rfl, hgB, hgl⟩ := h.own.where_ (by omega) HLN.out
  have hoB := h.lt
  have HOW := hide h.own
  have g1 : (kd == 3) = false := by simp [hq]
  clear hi hq
  clear h hk
  generalize hx : L.getD k d0S = x at *
  have HXX := hide hx
  obtain ⟨xu, xm, xg⟩ := x
  simp only at hg
  have q1 : (0 : Int) ≤ (k : Int) := by omega
  have q2 : (k : Int) < (sn : Int) := by omega
  obtain ⟨ht1, ht2⟩ := ht
  obtain ⟨hg1, hg2⟩ := hg
  clear hx
  go_enter Try.func24, Try.ntmps24
  go_wp2_with fail
  refine (HI.out _ (Ext.refl _)).mono ?_
  rintro e w1 ⟨rfl, e1⟩
  have E1 := hide e1
  clear e1 o0 o1
  have o0 := (HO.out w1 (Ext.trans HX.out E1.out)).cell 0
  have o1 := ((HO.out w1 (Ext.trans HX.out E1.out)).alloc (.cells #[.string xu, .int .i64 xm, .int .i64 xg] 61)).cell 1
  have s0 := (HSC.out w1 (Ext.trans HX.out E1.out)).cellK hks d0S 0 _ rfl
  have s1 := (HSC.out w1 (Ext.trans HX.out E1.out)).cellK hks d0S 1 _ rfl
  have s2 := (HSC.out w1 (Ext.trans HX.out E1.out)).cellK hks d0S 2 _ rfl
  rw [HXX.out] at s0 s1 s2
  simp only [Nat.add_zero] at s0 s1 s2
  go_wp2_with fail
  refine (HJ.out _ (Ext.trans E1.out (by repeat' (first | (with_reducible exact Below.refl _ _) | (with_reducible assumption) | (with_reducible refine below_drewN ?_ _) | (with_reducible refine Below.drew ?_) | (with_reducible refine ext_alloc ?_ _) | (with_reducible refine Below.setCell ?_ ?_ _) | go_size)))).mono ?_
  rintro e w2 ⟨rfl, e2⟩
  have E2 := hide (Ext.trans (Ext.trans E1.out (Ext.alloc _ _)) e2)
  have sb := (Blk.new w1 61 #[.string xu, .int .i64 xm, .int .i64 xg]).ext e2
  have p1 := sb.cell 1
  have p2 := sb.cell 2
  have SB := hide sb
  clear e2 sb o0 o1 s0 s1 s2
  obtain ⟨⟨a0, a1, a2, a3⟩, ⟨c0, c1⟩, ⟨f0, f1⟩, z1, b1⟩ := HCL.out w2 E2.out
  have o0 := (HO.out w2 (Ext.trans HX.out E2.out)).cell 0
  have o1 := (HO.out w2 (Ext.trans HX.out E2.out)).cell 1
  have HB := hide b1
  clear b1
  go_wp2_with fail
  go_quiet (fail)
  go_wp2_with fail
  refine gen_wp4 fun w4 h4 => ?_
  have E4 : Hid (Ext ((w.alloc (.cells #[.int .i64 t, .string u, .string s, .int .i64 kd] 33)).alloc (.cells #[.int .i64 0, .int .i64 0] 37)) w4) := hide (by rw [h4]; exact below_drewN E2.out _)
  have X4 := hide (Ext.trans HX.out E4.out)
  have p2' : w4.cell? ⟨w1.heap.size, 2, none⟩ = some (.int .i64 xg) := by rw [h4]; exact p2
  clear h4 a0 a1 a2 a3 c0 c1 f0 f1 z1 o0 o1 p1 p2 HB
  obtain ⟨⟨a0, a1, a2, a3⟩, ⟨c0, c1⟩, ⟨f0, f1⟩, z1, b1⟩ := HCL.out w4 E4.out
  have HB := hide b1
  have o1 := (HO.out w4 X4.out).cell 1
  have v2 := ((HOW.out.ext X4.out).atS len_eHd).cellK hih d0H 2 _ rfl
  simp only [Nat.zero_add] at v2
  have fz := (HOW.out.ext X4.out).frozen3 (i * 3 + 2)
  have hwr : IntKind.i64.wrap (t + xg) = t + xg := by rw [IntKind.wrap_i64]; omega
  clear b1 c0 c1 f0 f1 z1 a1 a2 a3
  go_region
  go_upto_region 16 with (fail)
  refine gen_wp4 fun w5 h5 => ?_
  have hls : hs.set i ((hs.getD i d0H).1, (hs.getD i d0H).2.1, (t + xg)) = hs.set i (u, s, (t + xg)) := by
    obtain ⟨hi1, hi2, hi3, _⟩ := HF.out
    rw [show hs.getD i d0H = hs[i] by simp [List.getD, hi1], hi2, hi3]
  have HO4 := HOW.out.ext X4.out
  have O5 := hide (show Own w5 B 83 3 eHd (.slice (some ⟨g, 0, none⟩) hn hc) (hs.set i (u, s, (t + xg))) from by
    rw [h5, ← hls]
    first
      | exact (HO4.set3 i (t + xg)).ext (Ext.drew _)
      | exact (HO4.ext (Ext.drew _)).set3 i (t + xg))
  have hog : o ≠ g := by omega
  have hrg : w.heap.size + 1 ≠ g := by omega
  have BO5 := hide (show Blk w5 o 55 #[.slice (some ⟨b, off, none⟩) sn sc, .slice (some ⟨g, 0, none⟩) hn hc] from by rw [h5]; exact (HO.out w4 X4.out).far hog _)
  have B5 := hide (show Blk w5 (w.heap.size + 1) 37 #[.int .i64 0, .int .i64 0] from by rw [h5]; exact HB.out.far hrg _)
  have G5 : Hid (w4.grownBy w5 (some g)) := hide (by
    rw [h5]
    exact ⟨rfl, rfl, rfl, by simp [World.setCell], fun k _ hk => Below.heap_setCell _ _ _ k (fun h => hk (by rw [h]))⟩)
  have vv := (O5.out.atS len_eHd).cellK hih d0H 2 (.int .i64 ((t + xg))) (by
    have := HF.out.1
    simp [List.getD, this, eHd])
  simp only [Nat.zero_add] at vv
  have c0 := B5.out.cell 0
  have c1 := B5.out.cell 1
  have f0 := B5.out.frozen 0
  have f1 := B5.out.frozen 1
  have z1 := B5.out.lt
  have o1' := BO5.out.cell 1
  clear h5 hls HO4 a0 o1 v2 fz p2' hwr
  go_wp2_with fail
  refine gen_body fun W3 h3 => ?_
  have B3 : Blk W3 (w.heap.size + 1) 37 #[.int .i64 0, .int .i64 ((t + xg))] := by rw [h3]; exact (B5.out.set_ 0 _).set_ 1 _
  have hor : o ≠ w.heap.size + 1 := by have := H.out.blk.lt; omega
  have BO3 : Blk W3 o 55 #[.slice (some ⟨b, off, none⟩) sn sc, .slice (some ⟨g, 0, none⟩) hn hc] := by rw [h3]; exact (BO5.out.far hor _).far hor _
  have hgn : (Value.slice (some ⟨g, 0, none⟩) hn hc).ownBlock ≠ some (w.heap.size + 1) := by
    intro h
    injection h with h
    exact hrg h.symm
  have O3 : Own W3 B 83 3 eHd (.slice (some ⟨g, 0, none⟩) hn hc) (hs.set i (u, s, (t + xg))) := by
    rw [h3]
    exact (O5.out.kept (grown_set3 w5 (w.heap.size + 1) 0 (.int .i64 0)) (.inr hgn)).kept (grown_set3 _ (w.heap.size + 1) 1 (.int .i64 ((t + xg)))) (.inr hgn)
  have S4 := (HSC.out w4 X4.out).grown4 G5.out (fun a ha => by injection ha with ha; subst ha; intro h; injection h with h; simp at h; omega)
  have hbl : b < w.heap.size := by omega
  have S3 : At W3 3 eS (some ⟨b, off, none⟩) sn sc L := by
    rw [h3]
    exact ((S4.grown4 (grown_set3 w5 (w.heap.size + 1) 0 (.int .i64 0)) (fun a ha => by injection ha with ha; subst ha; intro h; injection h with h; simp at h; omega)).grown4 (grown_set3 _ (w.heap.size + 1) 1 (.int .i64 ((t + xg)))) (fun a ha => by injection ha with ha; subst ha; intro h; injection h with h; simp at h; omega))
  have F3 : Fr w W3 o (some g) := by
    rw [h3]
    refine ⟨by exact (G5.out.os.trans X4.out.os), by exact (G5.out.tape.trans X4.out.tape), by exact (G5.out.output.trans X4.out.output), ?_, fun k hk hko hkg => ?_⟩
    · have h1 := G5.out.size; have h2 := X4.out.size; simp [World.setCell]; omega
    · rw [Below.heap_setCell _ _ _ k (by show k ≠ w.heap.size + 1; omega), Below.heap_setCell _ _ _ k (by show k ≠ w.heap.size + 1; omega)]
      exact (G5.out.block k (by have := X4.out.size; omega) hkg).trans (X4.out.block k hk)
  have k0 := B3.cell 0
  have k1 := B3.cell 1
  clear h3 c0 c1 f0 f1 z1 vv o1'
  refine bodyPost_ret (v := .agg #[.int .i64 0, .int .i64 ((t + xg))]) (by simp [results, Try.results24, go_sem, k0, k1]) rfl ⟨_, _, _, rfl, ⟨BO3, S3, O3, hoB, H.out.sb⟩, F3, .inl rfl⟩
end
end Go.Proofs.Ytfpmjaeehhegcaa
