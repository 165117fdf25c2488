/- Walks: answer of the program, where it gives a new lease; answer as a whole. Conditions: as stated. -/
import Derived.Test.YtfpmjaeehhegcaaAnsM
import Derived.Test.YtfpmjaeehhegcaaStep
import Derived.Test.YtfpmjaeehhegcaaHeldZ
namespace Go.Proofs.Ytfpmjaeehhegcaa
open Go.RowKit
theorem genThen2 {K : Act → World → Prop} {Q : Exit → Act → World → Prop} {e : Exit} {a : Act} {w : World} (h : ∀ W, W = w → Exit.then K Q e a W) : Exit.then K Q e a w := h w rfl
/-- What the append's loads read. -/
def AppS (o m g : Nat) (hA : Option Addr) (hn hc : Nat) (t xg : Int) (u s : ByteArray) (w' : World) : Prop :=
  w'.cell? ⟨o, 1, none⟩ = some (.slice hA hn hc) ∧ w'.cell? ⟨m, 0, none⟩ = some (.int .i64 t) ∧ w'.cell? ⟨m, 1, none⟩ = some (.string u) ∧ w'.cell? ⟨m, 2, none⟩ = some (.string s) ∧ w'.cell? ⟨g, 2, none⟩ = some (.int .i64 xg)
theorem AppS.ext {o m g : Nat} {hA : Option Addr} {hn hc : Nat} {t xg : Int} {u s : ByteArray} {w w' : World} (h : AppS o m g hA hn hc t xg u s w) (he : Ext w w') : AppS o m g hA hn hc t xg u s w' :=
  ⟨he.cell h.1, he.cell h.2.1, he.cell h.2.2.1, he.cell h.2.2.2.1, he.cell h.2.2.2.2⟩
theorem AppS.grown {o m g : Nat} {hA : Option Addr} {hn hc : Nat} {t xg : Int} {u s : ByteArray} {w w' : World} {row : Option Nat} (h : AppS o m g hA hn hc t xg u s w) (he : w.grownBy w' row) (h1 : some o ≠ row) (h2 : some m ≠ row) (h3 : some g ≠ row) : AppS o m g hA hn hc t xg u s w' :=
  ⟨he.cell h.1 h1, he.cell h.2.1 h2, he.cell h.2.2.1 h2, he.cell h.2.2.2.1 h2, he.cell h.2.2.2.2 h3⟩
section
variable {o B : Nat} {sA hA : Option Addr} {sn sc hn hc : Nat} {L : List SeatV} {hs : List HeldV} {t kd : Int} {u s : ByteArray} {w : World}
set_option linter.unusedSimpArgs false in
set_option maxRecDepth 100000 in
set_option maxHeartbeats 4000000 in
theorem keyAns_new {k : Nat} (h : OffAt w o B sA sn sc L hA hn hc hs) (hk : L.findIdx? (seatP u) = some k) (ht : 0 ≤ t ∧ t ≤ 1000000000000000) (hg : 1 ≤ (L.getD k d0S).2.2 ∧ (L.getD k d0S).2.2 ≤ 1000000000000000) (hi : hs.findIdx? (heldP u s t) = none) (hn2 : hn ≤ 3000) (hBw : B ≤ w.heap.size) (hq : kd = 1) (hf : ¬ (L.getD k d0S).2.1 ≤ (lastN hs u t : Nat)) :
    Calls Try.prog 24 #[.pointer (some ⟨o, 0, none⟩), .agg #[.int .i64 t, .string u, .string s, .int .i64 kd]] w (OffGives w o B sA sn sc L (Value.slice hA hn hc).ownBlock ((0, t + (L.getD k d0S).2.2), hs ++ [(u, s, t + (L.getD k d0S).2.2)])) := by
  have HX : Hid (Ext w ((w.alloc (.cells #[.int .i64 t, .string u, .string s, .int .i64 kd] 33)).alloc (.cells #[.int .i64 0, .int .i64 0] 37))) := hide (ext_alloc (Ext.alloc _ _) _)
  have HCL := hide (fun (W : World) hW => ans_cells w t u s kd (W := W) hW)
  have HI := hide (fun (W : World) (hW : Ext ((w.alloc (.cells #[.int .i64 t, .string u, .string s, .int .i64 kd] 33)).alloc (.cells #[.int .i64 0, .int .i64 0] 37)) W) =>
    idxS_any (ptr := .pointer (some ⟨w.heap.size, 0, none⟩)) (p := seatP u) (enters_of Try.func43 (by kernel_rfl) rfl) (fun x W' hW' => clo1_any x W' (HCL.out W' (Ext.trans hW hW')).1.2.1) (h.seats.ext (Ext.trans HX.out hW)))
  rw [idx_some hk] at HI
  have HJ := hide (fun (W : World) (hW : Ext ((w.alloc (.cells #[.int .i64 t, .string u, .string s, .int .i64 kd] 33)).alloc (.cells #[.int .i64 0, .int .i64 0] 37)) W) =>
    idxH_any (ptr := .pointer (some ⟨w.heap.size, 0, none⟩)) (p := heldP u s t) (enters_of Try.func45 (by kernel_rfl) rfl) (fun x W' hW' => clo2_any x W' (HCL.out W' (Ext.trans hW hW')).1.1 (HCL.out W' (Ext.trans hW hW')).1.2.1 (HCL.out W' (Ext.trans hW hW')).1.2.2.1) ((h.own.ext (Ext.trans HX.out hW)).atS len_eHd))
  rw [idx_none hi] at HJ
  have hks : k < sn := by
    have := (List.findIdx?_eq_some_iff_getElem.1 hk).1
    have := h.seats.len; omega
  have HSC := hide (fun (W : World) (hW : Ext w W) => (h.seats.ext hW))
  have HO := hide (fun (W : World) (hW : Ext w W) => (h.blk.ext hW))
  have hbs := h.seats.bound
  have hbh := (h.own.atS len_eHd).bound
  obtain ⟨b, off, rfl, hcl0⟩ := h.seats.addr (by omega)
  clear hcl0
  have H := hide h
  have o0 := (h.blk.ext HX.out).cell 0
  have o1 := (h.blk.ext HX.out).cell 1
  obtain ⟨i0, hi0, hz0, hz1, hz2⟩ := info_parts Try.info83
  have HLN := hide (h.own.atS len_eHd).len
  have hbB := h.sb _ _ (by omega) rfl
  have HOW := hide h.own
  have hoB := h.lt
  have g1 : (kd != 1) = false := by simp [hq]
  have HLA := hide (fun (W : World) (hW : Ext w W) => keyLasting_any ((h.blk.ext hW).cell 1) ((h.own.ext hW).atS len_eHd) u t)
  generalize lastN hs u t = ln at *
  clear hi hq
  clear h hk
  generalize hx : L.getD k d0S = x at *
  have HXX := hide hx
  obtain ⟨xu, xm, xg⟩ := x
  simp only at hg
  have q1 : (0 : Int) ≤ (k : Int) := by omega
  have q2 : (k : Int) < (sn : Int) := by omega
  obtain ⟨ht1, ht2⟩ := ht
  obtain ⟨hg1, hg2⟩ := hg
  simp only at hf
  have g2 : decide (xm ≤ (ln : Int)) = false := by simpa using hf
  clear hf
  clear hx
  go_enter Try.func24, Try.ntmps24
  go_wp2_with fail
  refine (HI.out _ (Ext.refl _)).mono ?_
  rintro e w1 ⟨rfl, e1⟩
  have E1 := hide e1
  clear e1 o0 o1
  have o0 := (HO.out w1 (Ext.trans HX.out E1.out)).cell 0
  have o1 := ((HO.out w1 (Ext.trans HX.out E1.out)).alloc (.cells #[.string xu, .int .i64 xm, .int .i64 xg] 61)).cell 1
  have s0 := (HSC.out w1 (Ext.trans HX.out E1.out)).cellK hks d0S 0 _ rfl
  have s1 := (HSC.out w1 (Ext.trans HX.out E1.out)).cellK hks d0S 1 _ rfl
  have s2 := (HSC.out w1 (Ext.trans HX.out E1.out)).cellK hks d0S 2 _ rfl
  rw [HXX.out] at s0 s1 s2
  simp only [Nat.add_zero] at s0 s1 s2
  go_wp2_with fail
  refine (HJ.out _ (Ext.trans E1.out (by repeat' (first | (with_reducible exact Below.refl _ _) | (with_reducible assumption) | (with_reducible refine below_drewN ?_ _) | (with_reducible refine Below.drew ?_) | (with_reducible refine ext_alloc ?_ _) | (with_reducible refine Below.setCell ?_ ?_ _) | go_size)))).mono ?_
  rintro e w2 ⟨rfl, e2⟩
  have E2 := hide (Ext.trans (Ext.trans E1.out (Ext.alloc _ _)) e2)
  have sb := (Blk.new w1 61 #[.string xu, .int .i64 xm, .int .i64 xg]).ext e2
  have p1 := sb.cell 1
  have p2 := sb.cell 2
  have SB := hide sb
  clear e2 sb o0 o1 s0 s1 s2
  obtain ⟨⟨a0, a1, a2, a3⟩, ⟨c0, c1⟩, ⟨f0, f1⟩, z1, b1⟩ := HCL.out w2 E2.out
  have o0 := (HO.out w2 (Ext.trans HX.out E2.out)).cell 0
  have o1 := (HO.out w2 (Ext.trans HX.out E2.out)).cell 1
  have HB := hide b1
  clear b1
  go_wp2_with fail
  have hx2 := Ext.trans HX.out E2.out
  have EX := Ext.drew w2
  go_region_held3 (fun w' => w'.cell? ⟨w.heap.size, 0, none⟩ = some (.int .i64 t) ∧ w'.cell? ⟨w.heap.size, 1, none⟩ = some (.string u) ∧ w'.cell? ⟨w1.heap.size, 1, none⟩ = some (.int .i64 xm)) (first | go_keep | exact ⟨EX.cell a0, EX.cell a1, EX.cell p1⟩) (first | ((go_at_call 29; with_reducible refine (HLA.out _ (Ext.trans hx2 EX)).mono ?_); rintro e w5 ⟨rfl, e5⟩; have EX := Ext.trans EX e5))
  have E5 := hide (Ext.trans E2.out EX)
  have p2' := EX.cell p2
  clear hx2 a0 a1 a2 a3 c0 c1 f0 f1 z1 o0 o1 p1 p2 HB
  obtain ⟨⟨a0, a1, a2, a3⟩, ⟨c0, c1⟩, ⟨f0, f1⟩, z1, b1⟩ := HCL.out _ E5.out
  have o0 := (HO.out _ (Ext.trans HX.out E5.out)).cell 0
  have o1 := (HO.out _ (Ext.trans HX.out E5.out)).cell 1
  have HB := hide b1
  have hwr : IntKind.i64.wrap (t + xg) = t + xg := by rw [IntKind.wrap_i64]; omega
  clear b1 EX
  go_wp2_with fail
  refine gen_wp4 fun w6 h6 => ?_
  have E6 : Hid (Ext ((w.alloc (.cells #[.int .i64 t, .string u, .string s, .int .i64 kd] 33)).alloc (.cells #[.int .i64 0, .int .i64 0] 37)) w6) := hide (by rw [h6]; exact E5.out)
  have X6 := hide (Ext.trans HX.out E6.out)
  have r2 : w6.cell? ⟨w1.heap.size, 2, none⟩ = some (.int .i64 xg) := by rw [h6]; exact p2'
  clear h6 a0 a1 a2 a3 c0 c1 f0 f1 z1 o0 o1 HB p2'
  obtain ⟨⟨a0, a1, a2, a3⟩, _⟩ := HCL.out w6 E6.out
  have o1 := (HO.out w6 X6.out).cell 1
  have fo := (HO.out w6 X6.out).frozen 1
  have S1 : Hid (hs.length + 1 ≤ maxLen) := hide (by have := HLN.out; unfold maxLen; omega)
  have S2 : Hid ((hs.length + 1) * 40 ≤ 140737488355328) := hide (by have := HLN.out; omega)
  have HBW : Hid (B ≤ w6.heap.size) := hide (Nat.le_trans hBw X6.out.size)
  have hS6 : AppS o w.heap.size w1.heap.size hA hn hc t xg u s w6 := ⟨o1, a0, a1, a2, r2⟩
  have hS0 := hS6.ext (Ext.drew w6)
  have HS6 := hide hS6
  clear hS6
  refine region_z (S := AppS o w.heap.size w1.heap.size hA hn hc t xg u s) 17 (by kernel_rfl) ?_
  refine AnyZ.take (i := 0) (oi := _) (v := ?_) rfl rfl (by kernel_rfl) (by kernel_rfl) (by kernel_rfl) (by kernel_rfl) (by kernel_rfl) (by kernel_rfl) (fun _ _ _ h => h) (Or.inl ⟨by rfl, ?_⟩) hS0 ?_
  rotate_left
  · intro W hW; obtain ⟨s1, s2, s3, s4, s5⟩ := hW; first | (go_simp; done) | (go_simp; with_reducible rfl)
  simp only [Act.put, List.setIfInBounds_toArray, List.set_cons_zero, List.set_cons_succ]
  refine AnyZ.take (i := 1) (oi := _) (v := ?_) rfl rfl (by kernel_rfl) (by kernel_rfl) (by kernel_rfl) (by kernel_rfl) (by kernel_rfl) (by kernel_rfl) (fun _ _ _ h => h) (Or.inl ⟨by rfl, ?_⟩) hS0 ?_
  rotate_left
  · intro W hW; obtain ⟨s1, s2, s3, s4, s5⟩ := hW; first | (go_simp; done) | (go_simp; with_reducible rfl)
  simp only [Act.put, List.setIfInBounds_toArray, List.set_cons_zero, List.set_cons_succ]
  refine AnyZ.take (i := 2) (oi := _) (v := ?_) rfl rfl (by kernel_rfl) (by kernel_rfl) (by kernel_rfl) (by kernel_rfl) (by kernel_rfl) (by kernel_rfl) (fun _ _ _ h => h) (Or.inl ⟨by rfl, ?_⟩) hS0 ?_
  rotate_left
  · intro W hW; obtain ⟨s1, s2, s3, s4, s5⟩ := hW; first | (go_simp; done) | (go_simp; with_reducible rfl)
  simp only [Act.put, List.setIfInBounds_toArray, List.set_cons_zero, List.set_cons_succ]
  refine AnyZ.take (i := 3) (oi := _) (v := ?_) rfl rfl (by kernel_rfl) (by kernel_rfl) (by kernel_rfl) (by kernel_rfl) (by kernel_rfl) (by kernel_rfl) (fun _ _ _ h => h) (Or.inl ⟨by rfl, ?_⟩) hS0 ?_
  rotate_left
  · intro W hW; obtain ⟨s1, s2, s3, s4, s5⟩ := hW; first | (go_simp; done) | (go_simp; with_reducible rfl)
  simp only [Act.put, List.setIfInBounds_toArray, List.set_cons_zero, List.set_cons_succ]
  refine AnyZ.take (i := 4) (oi := _) (v := ?_) rfl rfl (by kernel_rfl) (by kernel_rfl) (by kernel_rfl) (by kernel_rfl) (by kernel_rfl) (by kernel_rfl) (fun _ _ _ h => h) (Or.inl ⟨by rfl, ?_⟩) hS0 ?_
  rotate_left
  · intro W hW; obtain ⟨s1, s2, s3, s4, s5⟩ := hW; first | (go_simp; done) | (go_simp; with_reducible rfl)
  simp only [Act.put, List.setIfInBounds_toArray, List.set_cons_zero, List.set_cons_succ]
  refine AnyZ.take (i := 5) (oi := _) (v := ?_) rfl rfl (by kernel_rfl) (by kernel_rfl) (by kernel_rfl) (by kernel_rfl) (by kernel_rfl) (by kernel_rfl) (fun _ _ _ h => h) (Or.inl ⟨by rfl, ?_⟩) hS0 ?_
  rotate_left
  · intro W hW; obtain ⟨s1, s2, s3, s4, s5⟩ := hW; first | (go_simp; done) | (go_simp; with_reducible rfl)
  simp only [Act.put, List.setIfInBounds_toArray, List.set_cons_zero, List.set_cons_succ]
  refine AnyZ.take (i := 6) (oi := _) (v := ?_) rfl rfl (by kernel_rfl) (by kernel_rfl) (by kernel_rfl) (by kernel_rfl) (by kernel_rfl) (by kernel_rfl) (fun _ _ _ h => h) (Or.inl ⟨by rfl, ?_⟩) hS0 ?_
  rotate_left
  · intro W hW; obtain ⟨s1, s2, s3, s4, s5⟩ := hW; first | (go_simp; done) | (go_simp; with_reducible rfl)
  simp only [Act.put, List.setIfInBounds_toArray, List.set_cons_zero, List.set_cons_succ]
  refine AnyZ.take (i := 7) (oi := _) (v := ?_) rfl rfl (by kernel_rfl) (by kernel_rfl) (by kernel_rfl) (by kernel_rfl) (by kernel_rfl) (by kernel_rfl) (fun _ _ _ h => h) (Or.inl ⟨by rfl, ?_⟩) hS0 ?_
  rotate_left
  · intro W hW; obtain ⟨s1, s2, s3, s4, s5⟩ := hW; first | (go_simp; done) | (go_simp; with_reducible rfl)
  simp only [Act.put, List.setIfInBounds_toArray, List.set_cons_zero, List.set_cons_succ]
  refine AnyZ.take (i := 8) (oi := _) (v := ?_) rfl rfl (by kernel_rfl) (by kernel_rfl) (by kernel_rfl) (by kernel_rfl) (by kernel_rfl) (by kernel_rfl) (fun _ _ _ h => h) (Or.inl ⟨by rfl, ?_⟩) hS0 ?_
  rotate_left
  · intro W hW; obtain ⟨s1, s2, s3, s4, s5⟩ := hW; first | (go_simp; done) | (go_simp; with_reducible rfl)
  simp only [Act.put, List.setIfInBounds_toArray, List.set_cons_zero, List.set_cons_succ]
  refine AnyZ.take (i := 9) (oi := _) (v := ?_) rfl rfl (by kernel_rfl) (by kernel_rfl) (by kernel_rfl) (by kernel_rfl) (by kernel_rfl) (by kernel_rfl) (fun _ _ _ h => h) (Or.inl ⟨by rfl, ?_⟩) hS0 ?_
  rotate_left
  · intro W hW; obtain ⟨s1, s2, s3, s4, s5⟩ := hW; first | (go_simp; done) | (go_simp; with_reducible rfl)
  simp only [Act.put, List.setIfInBounds_toArray, List.set_cons_zero, List.set_cons_succ]
  refine AnyZ.take (i := 10) (oi := _) (v := ?_) rfl rfl (by kernel_rfl) (by kernel_rfl) (by kernel_rfl) (by kernel_rfl) (by kernel_rfl) (by kernel_rfl) (fun _ _ _ h => h) (Or.inl ⟨by rfl, ?_⟩) hS0 ?_
  rotate_left
  · intro W hW; obtain ⟨s1, s2, s3, s4, s5⟩ := hW; first | (go_simp; done) | (go_simp; with_reducible rfl)
  simp only [Act.put, List.setIfInBounds_toArray, List.set_cons_zero, List.set_cons_succ]
  refine AnyZ.take (i := 11) (oi := _) (v := ?_) rfl rfl (by kernel_rfl) (by kernel_rfl) (by kernel_rfl) (by kernel_rfl) (by kernel_rfl) (by kernel_rfl) (fun _ _ _ h => h) (Or.inl ⟨by rfl, ?_⟩) hS0 ?_
  rotate_left
  · intro W hW; obtain ⟨s1, s2, s3, s4, s5⟩ := hW; first | (go_simp; done) | (go_simp; with_reducible rfl)
  simp only [Act.put, List.setIfInBounds_toArray, List.set_cons_zero, List.set_cons_succ]
  refine AnyZ.take (i := 12) (oi := _) (v := ?_) rfl rfl (by kernel_rfl) (by kernel_rfl) (by kernel_rfl) (by kernel_rfl) (by kernel_rfl) (by kernel_rfl) (fun _ _ _ h => h) (Or.inl ⟨by rfl, ?_⟩) hS0 ?_
  rotate_left
  · intro W hW; obtain ⟨s1, s2, s3, s4, s5⟩ := hW; first | (go_simp; done) | (go_simp; with_reducible rfl)
  simp only [Act.put, List.setIfInBounds_toArray, List.set_cons_zero, List.set_cons_succ]
  refine AnyZ.take (i := 13) (oi := _) (v := ?_) rfl rfl (by kernel_rfl) (by kernel_rfl) (by kernel_rfl) (by kernel_rfl) (by kernel_rfl) (by kernel_rfl) (fun _ _ _ h => h) (Or.inl ⟨by rfl, ?_⟩) hS0 ?_
  rotate_left
  · intro W hW; obtain ⟨s1, s2, s3, s4, s5⟩ := hW; first | (go_simp; done) | (go_simp; with_reducible rfl)
  simp only [Act.put, List.setIfInBounds_toArray, List.set_cons_zero, List.set_cons_succ]
  refine AnyZ.take (i := 14) (oi := _) (v := ?_) rfl rfl (by kernel_rfl) (by kernel_rfl) (by kernel_rfl) (by kernel_rfl) (by kernel_rfl) (by kernel_rfl) (fun _ _ _ h => h) (Or.inl ⟨by rfl, ?_⟩) hS0 ?_
  rotate_left
  · intro W hW; obtain ⟨s1, s2, s3, s4, s5⟩ := hW; first | (go_simp; done) | (go_simp; with_reducible rfl)
  simp only [Act.put, List.setIfInBounds_toArray, List.set_cons_zero, List.set_cons_succ]
  refine AnyZ.step (i := 15) rfl (by kernel_rfl) (fun K hK => ?_)
  go_simp
  refine hK.out _ _ (fun _ => ?_) ?_
  · exact HS6.out.ext (by repeat' (first | (with_reducible exact Below.refl _ _) | (with_reducible assumption) | (with_reducible refine below_drewN ?_ _) | (with_reducible refine Below.drew ?_) | (with_reducible refine ext_alloc ?_ _) | (with_reducible refine Below.setCell ?_ ?_ _) | go_size))
  clear hK K
  refine AnyZ.step (i := 16) rfl (by kernel_rfl) (fun K hK => ?_)
  refine step_append_at rfl _ _ 53 rfl _ 83 i0 _ 40 Try.underlying53 hi0 hz0 hz1 hz2 rfl (by omega) len_eHd one_eHd _ _ (by rfl) ((HOW.out.ext X6.out).ext (by repeat' (first | (with_reducible exact Below.refl _ _) | (with_reducible assumption) | (with_reducible refine below_drewN ?_ _) | (with_reducible refine Below.drew ?_) | (with_reducible refine ext_alloc ?_ _) | (with_reducible refine Below.setCell ?_ ?_ _) | go_size))) (some ⟨w6.heap.size, 0, none⟩) 1 1 [(u, s, t + xg)] (by simp [Act.eval]) ((At.newHd w6 (u, s, t + xg) _).ext (by repeat' (first | (with_reducible exact Below.refl _ _) | (with_reducible assumption) | (with_reducible refine below_drewN ?_ _) | (with_reducible refine Below.drew ?_) | (with_reducible refine ext_alloc ?_ _) | (with_reducible refine Below.setCell ?_ ?_ _) | go_size))) S1.out S2.out (Nat.le_trans HBW.out (by simp)) ?_
  intro v7 w7 o7 g7 _ hob
  have hno : some o ≠ (Value.slice hA hn hc).ownBlock := fun h => by have := (HOW.out.lt o h.symm).1; omega
  have hnw : ∀ m, w.heap.size ≤ m → some m ≠ (Value.slice hA hn hc).ownBlock := fun m hm h => by have := (HOW.out.lt m h.symm).2; omega
  have hw1 : w.heap.size ≤ w1.heap.size := (Ext.trans HX.out E1.out).size
  refine hK.out _ _ (fun _ => ?_) ?_
  · exact (HS6.out.ext (by repeat' (first | (with_reducible exact Below.refl _ _) | (with_reducible assumption) | (with_reducible refine below_drewN ?_ _) | (with_reducible refine Below.drew ?_) | (with_reducible refine ext_alloc ?_ _) | (with_reducible refine Below.setCell ?_ ?_ _) | go_size))).grown g7 hno (hnw _ (Nat.le_refl _)) (hnw _ hw1)
  clear hK K
  simp only [Act.put, List.setIfInBounds_toArray, List.set_cons_zero, List.set_cons_succ]
  have HSG := hide (show AppS o w.heap.size w1.heap.size hA hn hc t xg u s w7 from (HS6.out.ext (by repeat' (first | (with_reducible exact Below.refl _ _) | (with_reducible assumption) | (with_reducible refine below_drewN ?_ _) | (with_reducible refine Below.drew ?_) | (with_reducible refine ext_alloc ?_ _) | (with_reducible refine Below.setCell ?_ ?_ _) | go_size))).grown g7 hno (hnw _ (Nat.le_refl _)) (hnw _ hw1))
  obtain ⟨A7, c7, hv7, _⟩ := o7.at_ len_eHd
  subst hv7
  have E66 : Ext w6 (w6.alloc (.cells #[.string u, .string s, .int .i64 (t + xg)] 83)).drew := (by repeat' (first | (with_reducible exact Below.refl _ _) | (with_reducible assumption) | (with_reducible refine below_drewN ?_ _) | (with_reducible refine Below.drew ?_) | (with_reducible refine ext_alloc ?_ _) | (with_reducible refine Below.setCell ?_ ?_ _) | go_size))
  have BO7 := hide (((HO.out w6 X6.out).ext E66).grown g7 hno)
  have BL7 := hide ((((HCL.out w6 E6.out).2.2.2.2).ext E66).grown g7 (hnw _ (by omega)))
  have hbo : b ≠ o := fun h => by
    have s0 := (HSC.out w (Ext.refl _)).cellK hks d0S 0 _ rfl
    rw [h, (HO.out w (Ext.refl _)).cell] at s0
    generalize off + k * 3 + 0 = m at s0
    match m, s0 with
    | 0, s0 => simp at s0
    | 1, s0 => simp at s0
    | m + 2, s0 => simp at s0
  have hbn : some b ≠ (Value.slice hA hn hc).ownBlock := fun h => by have := (HOW.out.lt b h.symm).1; omega
  have S7 := hide (((HSC.out w6 X6.out).ext E66).grown4 g7 (fun a ha => by injection ha with ha; subst ha; exact hbn))
  have G7 := hide (show w6.grownBy w7 (Value.slice hA hn hc).ownBlock from (ext_grown E66 _).trans g7)
  have P7 := hide o7
  have HOB : Hid ((Value.slice A7 (hs.length + 1) c7).ownBlock = (Value.slice hA hn hc).ownBlock ∨ ∃ g, (Value.slice A7 (hs.length + 1) c7).ownBlock = some g ∧ w.heap.size + 1 < g) := hide (by
    have h6 := (HCL.out w6 E6.out).2.2.2.1
    rcases hob with hob | hob
    · exact .inl (by simpa using hob)
    · exact .inr ⟨w6.heap.size + 1, by simpa using hob, by omega⟩)
  have hv : o ≠ w.heap.size + 1 ∧ o < w.heap.size := by have := H.out.blk.lt; omega
  have x1 := BO7.out.cell 1
  have fo7 := BO7.out.frozen 1
  clear o7 g7 hob hS0 E66 o1 a0 a1 a2 a3 r2 fo
  refine AnyZ.step (i := 17) rfl (by kernel_rfl) (fun K hK => ?_)
  go_simp
  refine hK.out _ _ (fun h => ?_) ?_
  · exact absurd (h.symm.trans (show _ = true by kernel_rfl)) (by simp)
  clear hK K
  refine AnyZ.step (i := 18) rfl (by kernel_rfl) (fun K hK => ?_)
  go_simp
  refine hK.out _ _ (fun h => ?_) ?_
  · exact absurd (h.symm.trans (show _ = true by kernel_rfl)) (by simp)
  clear hK K
  refine AnyZ.step (i := 19) rfl (by kernel_rfl) (fun K hK => ?_)
  go_simp
  refine hK.out _ _ (fun h => ?_) ?_
  · exact absurd (h.symm.trans (show _ = true by kernel_rfl)) (by simp)
  clear hK K
  refine AnyZ.done (by kernel_rfl) ?_ _
  refine genThen2 fun w8 h8 => ?_
  have P7' : Own w7 B 83 3 eHd (.slice A7 (hs.length + 1) c7) (hs ++ [(u, s, t + xg)]) := by
    have := P7.out
    rwa [List.length_append] at this
  have G8 : Hid (w7.grownBy w8 (some o)) := hide (by rw [h8]; exact grown_set3 w7 o 1 _)
  have hno8 : (Value.slice A7 (hs.length + 1) c7).ownBlock ≠ some o := fun h => by have := (P7'.lt o h).1; omega
  have hnl8 : (Value.slice A7 (hs.length + 1) c7).ownBlock ≠ some (w.heap.size + 1) := fun h => by
    rcases HOB.out with q | ⟨g, q, hg⟩
    · exact hnw _ (Nat.le_succ _) (h.symm.trans q)
    · rw [h] at q; injection q with q; omega
  have BO8 := hide (show Blk w8 o 55 #[.slice (some ⟨b, off, none⟩) sn sc, .slice A7 (hs.length + 1) c7] from by rw [h8]; exact BO7.out.set_ 1 _)
  have O8 := hide (P7'.kept G8.out (.inr hno8))
  have BL8 := hide (BL7.out.grown G8.out (by intro h; injection h with h; exact hv.1 h.symm))
  have S8 := hide (S7.out.grown4 G8.out (fun a ha => by injection ha with ha; subst ha; intro h; injection h with h; exact hbo h))
  have a0 := G8.out.cell HSG.out.2.1 (by intro h; injection h with h; simp at h; omega)
  have r2 := G8.out.cell HSG.out.2.2.2.2 (by intro h; injection h with h; simp at h; omega)
  have c0 := BL8.out.cell 0
  have c1 := BL8.out.cell 1
  have f0 := BL8.out.frozen 0
  have f1 := BL8.out.frozen 1
  have z1 := BL8.out.lt
  clear h8 x1 fo7 P7' 
  go_wp2_with fail
  refine gen_body fun W3 h3 => ?_
  have G3 : w8.grownBy W3 (some (w.heap.size + 1)) := by rw [h3]; exact (grown_set3 w8 (w.heap.size + 1) 0 _).trans (grown_set3 _ (w.heap.size + 1) 1 _)
  have B3 : Blk W3 (w.heap.size + 1) 37 #[.int .i64 0, .int .i64 (t + xg)] := by rw [h3]; exact (BL8.out.set_ 0 _).set_ 1 _
  have BO3 := BO8.out.grown G3 (by intro h; injection h with h; exact hv.1 h)
  have O3 := O8.out.kept G3 (.inr hnl8)
  have hbl : b < w.heap.size := by omega
  have S3 := S8.out.grown4 G3 (fun a ha => by injection ha with ha; subst ha; intro h; injection h with h; simp at h; omega)
  have F3 : Fr w W3 o (Value.slice hA hn hc).ownBlock := by
    have g6 := X6.out
    have z6 := g6.size
    have g7 := G7.out
    have g8 := G8.out
    refine ⟨G3.os.trans (g8.os.trans (g7.os.trans g6.os)), G3.tape.trans (g8.tape.trans (g7.tape.trans g6.tape)), G3.output.trans (g8.output.trans (g7.output.trans g6.output)), ?_, fun k hk hko hkg => ?_⟩
    · have y3 := G3.size
      have y7 := g7.size
      have y8 := g8.size
      omega
    · have y7 := g7.size
      have y8 := g8.size
      exact (G3.block k (by omega) (by intro h; injection h with h; omega)).trans ((g8.block k (by omega) (by intro h; injection h with h; exact hko h)).trans ((g7.block k (by omega) hkg).trans (g6.block k hk)))
  have k0 := B3.cell 0
  have k1 := B3.cell 1
  have HQ : (Value.slice A7 (hs.length + 1) c7).ownBlock = (Value.slice hA hn hc).ownBlock ∨ ∃ g, (Value.slice A7 (hs.length + 1) c7).ownBlock = some g ∧ w.heap.size ≤ g := HOB.out.imp id fun ⟨g, q, hg⟩ => ⟨g, q, by omega⟩
  clear h3 c0 c1 f0 f1 z1 a0 r2
  refine bodyPost_ret (v := .agg #[.int .i64 0, .int .i64 (t + xg)]) (by simp [results, Try.results24, go_sem, k0, k1]) rfl ⟨_, _, _, rfl, ⟨BO3, S3, O3, hoB, H.out.sb⟩, F3, HQ⟩
/-- answer of the program. -/
theorem keyAns_any (h : OffAt w o B sA sn sc L hA hn hc hs) (ht : 0 ≤ t ∧ t ≤ 1000000000000000) (hg : ∀ x ∈ L, 1 ≤ x.2.2 ∧ x.2.2 ≤ 1000000000000000) (hn2 : hn ≤ 3000) (hBw : B ≤ w.heap.size) :
    Calls Try.prog 24 #[.pointer (some ⟨o, 0, none⟩), .agg #[.int .i64 t, .string u, .string s, .int .i64 kd]] w (OffGives w o B sA sn sc L (Value.slice hA hn hc).ownBlock (ansF L hs (t, u, s, kd))) := by
  cases hk : L.findIdx? (seatP u) with
  | none =>
    have e : ansF L hs (t, u, s, kd) = ((14, 0), hs) := by unfold ansF; simp only [hk]
    rw [e]; exact keyAns_denied h hk
  | some k =>
    have hkl := (List.findIdx?_eq_some_iff_getElem.1 hk).1
    have e2 : (L.map fun s => s.2.2).getD k 0 = (L.getD k d0S).2.2 := by simp [List.getD, hkl]
    have e1 : (L.map fun s => s.2.1).getD k 0 = (L.getD k d0S).2.1 := by simp [List.getD, hkl]
    have hg' := hg _ (getD_mem L k d0S hkl)
    cases hi : hs.findIdx? (heldP u s t) with
    | none =>
      by_cases hq : kd = 1
      · by_cases hf : (L.getD k d0S).2.1 ≤ (lastN hs u t : Nat)
        · have e : ansF L hs (t, u, s, kd) = ((17, 0), hs) := by unfold ansF; simp only [hk, hi, e1, e2]; rw [if_neg (by simp [hq]), if_pos hf]
          rw [e]; exact keyAns_full h hk ht hg' hi hq hf
        · have e : ansF L hs (t, u, s, kd) = ((0, t + (L.getD k d0S).2.2), hs ++ [(u, s, t + (L.getD k d0S).2.2)]) := by unfold ansF; simp only [hk, hi, e1, e2]; rw [if_neg (by simp [hq]), if_neg hf]
          rw [e]; exact keyAns_new h hk ht hg' hi hn2 hBw hq hf
      · have e : ansF L hs (t, u, s, kd) = ((11, 0), hs) := by unfold ansF; simp only [hk, hi]; rw [if_pos hq]
        rw [e]; exact keyAns_state h hk ht hg' hi hq
    | some i =>
      by_cases hq : kd = 3
      · have e : ansF L hs (t, u, s, kd) = ((0, t), hs.set i (u, s, t)) := by unfold ansF; simp only [hk, hi]; rw [if_pos hq]
        rw [e]; exact keyAns_stop h hk ht hg' hi hq
      · have e : ansF L hs (t, u, s, kd) = ((0, t + (L.getD k d0S).2.2), hs.set i (u, s, t + (L.getD k d0S).2.2)) := by unfold ansF; simp only [hk, hi, e2]; rw [if_neg hq]
        rw [e]; exact keyAns_keep h hk ht hg' hi hq
end
end Go.Proofs.Ytfpmjaeehhegcaa
