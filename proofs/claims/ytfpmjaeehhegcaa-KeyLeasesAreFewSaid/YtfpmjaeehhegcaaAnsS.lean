/- Walks: answer of the reference, where it gives no new lease. Conditions: as stated. -/
import Derived.Test.YtfpmjaeehhegcaaAnsR
import Derived.Test.YtfpmjaeehhegcaaMem
import Derived.Deep.DeepCutAuto
namespace Go.Proofs.Ytfpmjaeehhegcaa
open Go.RowKit
/-- A row of leases that the call owns: until when one lasts is stored anew. -/
theorem flat_set3 : ∀ (xs : List HeldV) (k : Nat) (q : Int), (xs.flatMap eHd).set (k * 3 + 2) (.int .i64 q) = (xs.set k ((xs.getD k d0H).1, (xs.getD k d0H).2.1, q)).flatMap eHd
  | [], _, _ => rfl
  | x :: xs, 0, q => by simp [eHd]
  | x :: xs, k + 1, q => by
    have ih := flat_set3 xs k q
    rw [List.flatMap_cons, show (k + 1) * 3 + 2 = k * 3 + 2 + 1 + 1 + 1 by omega]
    simp only [eHd, List.cons_append, List.nil_append, List.set_cons_succ]
    rw [ih]
    simp [List.flatMap_cons, eHd]
theorem grown_set3 (w : World) (g i : Nat) (v : Value) : w.grownBy (w.setCell ⟨g, i, none⟩ v) (some g) :=
  ⟨rfl, rfl, rfl, by simp [World.setCell], fun k _ hk => Below.heap_setCell w ⟨g, i, none⟩ v k (fun h => hk (by rw [h]))⟩
section
variable {w : World} {base g n c : Nat} {t : TypeId} {xs : List HeldV}
theorem Own.row3 (h : Own w base t 3 eHd (.slice (some ⟨g, 0, none⟩) n c) xs) :
    ∃ cur, Blk w g t cur ∧ n ≤ c ∧ c ≤ maxLen ∧ cur.size = c * 3 ∧ xs.length = n ∧ cur.toList.take (n * 3) = xs.flatMap eHd ∧ base ≤ g := by
  obtain ⟨h0, h⟩ := h
  rcases h with ⟨hv, _⟩ | ⟨g', cap, cur, hv, hb, hg, hnc, hcm, hcs, ht⟩
  · cases hv
  · injection hv with h1 h2 h3
    injection h1 with h1
    injection h1 with h1
    subst h1 h3
    exact ⟨cur, hg, by omega, hcm, by omega, h2.symm, by rw [h2]; exact ht, hb⟩
theorem Own.frozen3 (h : Own w base t 3 eHd (.slice (some ⟨g, 0, none⟩) n c) xs) (i : Nat) : w.frozen? ⟨g, i, none⟩ = false := by
  obtain ⟨cur, hg, _⟩ := h.row3
  exact hg.frozen i
theorem Own.set3 (h : Own w base t 3 eHd (.slice (some ⟨g, 0, none⟩) n c) xs) (k : Nat) (q : Int) :
    Own (w.setCell ⟨g, k * 3 + 2, none⟩ (.int .i64 q)) base t 3 eHd (.slice (some ⟨g, 0, none⟩) n c) (xs.set k ((xs.getD k d0H).1, (xs.getD k d0H).2.1, q)) := by
  obtain ⟨cur, hg, hnc, hcm, hcs, hl, ht, hb⟩ := h.row3
  refine ⟨by rw [flat_len len_eHd], .inr ⟨g, c, _, by rw [List.length_set, hl], hb, hg.set_ (k * 3 + 2) _, by rw [List.length_set, hl]; exact hnc, hcm, by simp [hcs], ?_⟩⟩
  rw [List.length_set, hl, Array.toList_setIfInBounds, List.take_set, ht]
  exact flat_set3 xs k q
end
section
variable {sA hA : Option Addr} {sn sc hn hc : Nat} {L : List SeatV} {hs : List HeldV} {t kd : Int} {u s : ByteArray} {w : World}
set_option maxRecDepth 100000 in
set_option maxHeartbeats 4000000 in
theorem refAns_state {k : Nat} (h : At w 3 eS sA sn sc L) (h2 : At w 3 eHd hA hn hc hs) (hk : L.findIdx? (seatP u) = some k) (ht : 0 ≤ t ∧ t ≤ 1000000000000000) (hg : 1 ≤ (L.getD k d0S).2.2 ∧ (L.getD k d0S).2.2 ≤ 1000000000000000) (hi : hs.findIdx? (heldP u s t) = none) (hq : kd ≠ 1) :
    Calls Try.prog 31 #[.slice sA sn sc, .slice hA hn hc, .agg #[.int .i64 t, .string u, .string s, .int .i64 kd]] w (AnsGives w hA ((11, 0), hs)) := by
  have HS := hide (fun (W : World) (hW : Ext w W) => refSeatsOf_any (h.ext hW) u)
  rw [idx_some hk] at HS
  have HO := hide (fun (W : World) (hW : Ext w W) => refLeaseOf_any (h2.ext hW) t u s kd)
  rw [idx_none hi] at HO
  have hks : k < sn := by
    have := (List.findIdx?_eq_some_iff_getElem.1 hk).1
    have := h.len; omega
  have HSC := hide (fun (W : World) (hW : Ext w W) => (h.ext hW))
  have HX : Hid (Ext w ((w.alloc (.cells #[.int .i64 t, .string u, .string s, .int .i64 kd] 33)).alloc (.cells #[.int .i64 0, .int .i64 0] 37))) := hide (ext_alloc (Ext.alloc _ _) _)
  have HCL := hide (fun (W : World) hW => ans_cells w t u s kd (W := W) hW)
  have H2 := hide h2
  have hbs := h.bound
  have hbh := h2.bound
  obtain ⟨b, off, rfl, hcl0⟩ := h.addr (by omega)
  clear hcl0
  have g1 : (kd != 1) = true := by rw [bne_iff_ne]; exact hq
  clear hi hq
  clear h h2 hk
  generalize hx : L.getD k d0S = x at *
  have HXX := hide hx
  obtain ⟨xu, xm, xg⟩ := x
  simp only at hg
  have hw1 : IntKind.i64.wrap (t + xg) = t + xg := by rw [IntKind.wrap_i64]; omega
  have q1 : (0 : Int) ≤ (k : Int) := by omega
  have q2 : (k : Int) < (sn : Int) := by omega
  obtain ⟨ht1, ht2⟩ := ht
  obtain ⟨hg1, hg2⟩ := hg
  have WR := hide hw1
  clear hx hw1
  go_enter Try.func31, Try.ntmps31
  go_wp2_with fail
  refine (HS.out _ HX.out).mono ?_
  rintro e w1 ⟨rfl, e1⟩
  obtain ⟨⟨a0, a1, a2, a3⟩, ⟨c0, c1⟩, ⟨f0, f1⟩, z1, b1⟩ := HCL.out w1 e1
  have E1 := hide e1
  clear b1 e1
  go_wp2_with fail
  refine (HO.out _ (Ext.trans HX.out E1.out)).mono ?_
  rintro e w2 ⟨rfl, e2⟩
  have E2 := hide (Ext.trans E1.out e2)
  clear e2 a0 a1 a2 a3 c0 c1 f0 f1 z1
  obtain ⟨⟨a0, a1, a2, a3⟩, ⟨c0, c1⟩, ⟨f0, f1⟩, z1, b1⟩ := HCL.out w2 E2.out
  have s1 := (HSC.out w2 (Ext.trans HX.out E2.out)).cellK hks d0S 1 _ rfl
  have s2 := (HSC.out w2 (Ext.trans HX.out E2.out)).cellK hks d0S 2 _ rfl
  rw [HXX.out] at s1 s2
  simp only at s1 s2
  have HB := hide b1
  clear b1
  go_wp2_with fail
  have hw1 := WR.out
  go_quiet (fail)
  clear hw1
  go_wp2_with fail
  refine gen_body fun W3 h3 => ?_
  have B3 : Blk W3 (w.heap.size + 1) 37 #[.int .i64 11, .int .i64 0] := by rw [h3]; exact ((HB.out.drewN _).set_ 0 _).set_ 1 _
  have E3 : Ext w W3 := by
    have ew := Ext.trans HX.out E2.out
    rw [h3]
    exact (by repeat' (first | (with_reducible exact Below.refl _ _) | (with_reducible assumption) | (with_reducible refine below_drewN ?_ _) | (with_reducible refine Below.drew ?_) | (with_reducible refine ext_alloc ?_ _) | (with_reducible refine Below.setCell ?_ ?_ _) | go_size))
  have k0 := B3.cell 0
  have k1 := B3.cell 1
  clear h3 a0 a1 a2 a3 c0 c1 f0 f1 z1
  refine bodyPost_ret (v := .tuple #[.agg #[.int .i64 11, .int .i64 0], .slice hA hn hc]) (by simp [results, Try.results31, go_sem, k0, k1]) rfl ⟨_, _, _, rfl, H2.out.ext E3, E3, .inl rfl⟩
set_option maxRecDepth 100000 in
set_option maxHeartbeats 4000000 in
theorem refAns_full {k : Nat} (h : At w 3 eS sA sn sc L) (h2 : At w 3 eHd hA hn hc hs) (hk : L.findIdx? (seatP u) = some k) (ht : 0 ≤ t ∧ t ≤ 1000000000000000) (hg : 1 ≤ (L.getD k d0S).2.2 ∧ (L.getD k d0S).2.2 ≤ 1000000000000000) (hi : hs.findIdx? (heldP u s t) = none) (hq : kd = 1) (hf : (L.getD k d0S).2.1 ≤ (lastN hs u t : Nat)) :
    Calls Try.prog 31 #[.slice sA sn sc, .slice hA hn hc, .agg #[.int .i64 t, .string u, .string s, .int .i64 kd]] w (AnsGives w hA ((17, 0), hs)) := by
  have HS := hide (fun (W : World) (hW : Ext w W) => refSeatsOf_any (h.ext hW) u)
  rw [idx_some hk] at HS
  have HO := hide (fun (W : World) (hW : Ext w W) => refLeaseOf_any (h2.ext hW) t u s kd)
  rw [idx_none hi] at HO
  have hks : k < sn := by
    have := (List.findIdx?_eq_some_iff_getElem.1 hk).1
    have := h.len; omega
  have HSC := hide (fun (W : World) (hW : Ext w W) => (h.ext hW))
  have HX : Hid (Ext w ((w.alloc (.cells #[.int .i64 t, .string u, .string s, .int .i64 kd] 33)).alloc (.cells #[.int .i64 0, .int .i64 0] 37))) := hide (ext_alloc (Ext.alloc _ _) _)
  have HCL := hide (fun (W : World) hW => ans_cells w t u s kd (W := W) hW)
  have H2 := hide h2
  have hbs := h.bound
  have hbh := h2.bound
  obtain ⟨b, off, rfl, hcl0⟩ := h.addr (by omega)
  clear hcl0
  have g1 : (kd != 1) = false := by simp [hq]
  have HLA := hide (fun (W : World) (hW : Ext w W) => refLasting_any (h2.ext hW) u t)
  generalize lastN hs u t = ln at *
  clear hi hq
  clear h h2 hk
  generalize hx : L.getD k d0S = x at *
  have HXX := hide hx
  obtain ⟨xu, xm, xg⟩ := x
  simp only at hg
  have hw1 : IntKind.i64.wrap (t + xg) = t + xg := by rw [IntKind.wrap_i64]; omega
  have q1 : (0 : Int) ≤ (k : Int) := by omega
  have q2 : (k : Int) < (sn : Int) := by omega
  obtain ⟨ht1, ht2⟩ := ht
  obtain ⟨hg1, hg2⟩ := hg
  simp only at hf
  have g2 : decide (xm ≤ (ln : Int)) = true := by simpa using hf
  clear hf
  have WR := hide hw1
  clear hx hw1
  go_enter Try.func31, Try.ntmps31
  go_wp2_with fail
  refine (HS.out _ HX.out).mono ?_
  rintro e w1 ⟨rfl, e1⟩
  obtain ⟨⟨a0, a1, a2, a3⟩, ⟨c0, c1⟩, ⟨f0, f1⟩, z1, b1⟩ := HCL.out w1 e1
  have E1 := hide e1
  clear b1 e1
  go_wp2_with fail
  refine (HO.out _ (Ext.trans HX.out E1.out)).mono ?_
  rintro e w2 ⟨rfl, e2⟩
  have E2 := hide (Ext.trans E1.out e2)
  clear e2 a0 a1 a2 a3 c0 c1 f0 f1 z1
  obtain ⟨⟨a0, a1, a2, a3⟩, ⟨c0, c1⟩, ⟨f0, f1⟩, z1, b1⟩ := HCL.out w2 E2.out
  have s1 := (HSC.out w2 (Ext.trans HX.out E2.out)).cellK hks d0S 1 _ rfl
  have s2 := (HSC.out w2 (Ext.trans HX.out E2.out)).cellK hks d0S 2 _ rfl
  rw [HXX.out] at s1 s2
  simp only at s1 s2
  have HB := hide b1
  clear b1
  go_wp2_with fail
  have hw1 := WR.out
  go_quiet (fail)
  clear hw1
  go_wp2_with fail
  refine gen_wp4 fun w3 h3 => ?_
  have E3 : Hid (Ext ((w.alloc (.cells #[.int .i64 t, .string u, .string s, .int .i64 kd] 33)).alloc (.cells #[.int .i64 0, .int .i64 0] 37)) w3) := hide (by rw [h3]; exact below_drewN E2.out _)
  clear h3 a0 a1 a2 a3 c0 c1 f0 f1 z1 s1 s2 HB
  obtain ⟨⟨a0, a1, a2, a3⟩, _⟩ := HCL.out w3 E3.out
  have s1 := (HSC.out w3 (Ext.trans HX.out E3.out)).cellK hks d0S 1 _ rfl
  rw [HXX.out] at s1
  simp only at s1
  have EX := Ext.drew w3
  go_region_held3 (fun w' => w'.cell? ⟨w.heap.size, 0, none⟩ = some (.int .i64 t) ∧ w'.cell? ⟨w.heap.size, 1, none⟩ = some (.string u) ∧ w'.cell? ⟨b, off + k * 3 + 1, none⟩ = some (.int .i64 xm)) (first | go_keep | exact ⟨EX.cell a0, EX.cell a1, EX.cell s1⟩) (first | ((go_at_call 34; with_reducible refine (HLA.out _ (Ext.trans (Ext.trans HX.out E3.out) EX)).mono ?_); rintro e w5 ⟨rfl, e5⟩; have EX := Ext.trans EX e5))
  have E5 := hide (Ext.trans E3.out EX)
  clear EX a0 a1 a2 a3 s1
  obtain ⟨⟨a0, a1, a2, a3⟩, ⟨c0, c1⟩, ⟨f0, f1⟩, z1, b1⟩ := HCL.out _ E5.out
  have HB := hide b1
  clear b1
  go_wp2_with fail
  refine gen_body fun W3 h3 => ?_
  have B3 : Blk W3 (w.heap.size + 1) 37 #[.int .i64 17, .int .i64 0] := by rw [h3]; exact (HB.out.set_ 0 _).set_ 1 _
  have E3 : Ext w W3 := by
    have ew := Ext.trans HX.out E5.out
    rw [h3]
    exact (by repeat' (first | (with_reducible exact Below.refl _ _) | (with_reducible assumption) | (with_reducible refine below_drewN ?_ _) | (with_reducible refine Below.drew ?_) | (with_reducible refine ext_alloc ?_ _) | (with_reducible refine Below.setCell ?_ ?_ _) | go_size))
  have k0 := B3.cell 0
  have k1 := B3.cell 1
  clear h3 a0 a1 a2 a3 c0 c1 f0 f1 z1
  refine bodyPost_ret (v := .tuple #[.agg #[.int .i64 17, .int .i64 0], .slice hA hn hc]) (by simp [results, Try.results31, go_sem, k0, k1]) rfl ⟨_, _, _, rfl, H2.out.ext E3, E3, .inl rfl⟩
set_option maxRecDepth 100000 in
set_option maxHeartbeats 4000000 in
theorem refAns_stop {k i : Nat} (h : At w 3 eS sA sn sc L) (h2 : At w 3 eHd hA hn hc hs) (hk : L.findIdx? (seatP u) = some k) (ht : 0 ≤ t ∧ t ≤ 1000000000000000) (hg : 1 ≤ (L.getD k d0S).2.2 ∧ (L.getD k d0S).2.2 ≤ 1000000000000000) (hi : hs.findIdx? (heldP u s t) = some i) (hn2 : hn ≤ 3000) (hq : kd = 3) :
    Calls Try.prog 31 #[.slice sA sn sc, .slice hA hn hc, .agg #[.int .i64 t, .string u, .string s, .int .i64 kd]] w (AnsGives w hA ((0, t), hs.set i (u, s, t))) := by
  have HS := hide (fun (W : World) (hW : Ext w W) => refSeatsOf_any (h.ext hW) u)
  rw [idx_some hk] at HS
  have HO := hide (fun (W : World) (hW : Ext w W) => refLeaseOf_any (h2.ext hW) t u s kd)
  rw [idx_some hi] at HO
  have hks : k < sn := by
    have := (List.findIdx?_eq_some_iff_getElem.1 hk).1
    have := h.len; omega
  have HSC := hide (fun (W : World) (hW : Ext w W) => (h.ext hW))
  have HX : Hid (Ext w ((w.alloc (.cells #[.int .i64 t, .string u, .string s, .int .i64 kd] 33)).alloc (.cells #[.int .i64 0, .int .i64 0] 37))) := hide (ext_alloc (Ext.alloc _ _) _)
  have HCL := hide (fun (W : World) hW => ans_cells w t u s kd (W := W) hW)
  have H2 := hide h2
  have hbs := h.bound
  have hbh := h2.bound
  obtain ⟨b, off, rfl, hcl0⟩ := h.addr (by omega)
  clear hcl0
  have HI := hide (find_held hi)
  have HLN := hide h2.len
  have hih : i < hn := by have := HI.out.1; have := HLN.out; omega
  have q3 : (0 : Int) ≤ (i : Int) := by omega
  have q4 : (i : Int) < (hn : Int) := by omega
  have q5 : decide ((i : Int) < 0) = false := by simp
  have g1 : (kd == 3) = true := by simp [hq]
  clear hi hq
  clear h h2 hk
  generalize hx : L.getD k d0S = x at *
  have HXX := hide hx
  obtain ⟨xu, xm, xg⟩ := x
  simp only at hg
  have hw1 : IntKind.i64.wrap (t + xg) = t + xg := by rw [IntKind.wrap_i64]; omega
  have q1 : (0 : Int) ≤ (k : Int) := by omega
  have q2 : (k : Int) < (sn : Int) := by omega
  obtain ⟨ht1, ht2⟩ := ht
  obtain ⟨hg1, hg2⟩ := hg
  have WR := hide hw1
  clear hx hw1
  go_enter Try.func31, Try.ntmps31
  go_wp2_with fail
  refine (HS.out _ HX.out).mono ?_
  rintro e w1 ⟨rfl, e1⟩
  obtain ⟨⟨a0, a1, a2, a3⟩, ⟨c0, c1⟩, ⟨f0, f1⟩, z1, b1⟩ := HCL.out w1 e1
  have E1 := hide e1
  clear b1 e1
  go_wp2_with fail
  refine (HO.out _ (Ext.trans HX.out E1.out)).mono ?_
  rintro e w2 ⟨rfl, e2⟩
  have E2 := hide (Ext.trans E1.out e2)
  clear e2 a0 a1 a2 a3 c0 c1 f0 f1 z1
  obtain ⟨⟨a0, a1, a2, a3⟩, ⟨c0, c1⟩, ⟨f0, f1⟩, z1, b1⟩ := HCL.out w2 E2.out
  have s1 := (HSC.out w2 (Ext.trans HX.out E2.out)).cellK hks d0S 1 _ rfl
  have s2 := (HSC.out w2 (Ext.trans HX.out E2.out)).cellK hks d0S 2 _ rfl
  rw [HXX.out] at s1 s2
  simp only at s1 s2
  have HB := hide b1
  clear b1
  go_wp2_with fail
  have hw1 := WR.out
  go_quiet (fail)
  clear hw1
  go_wp2_with fail
  refine gen_wp4 fun w4 h4 => ?_
  have E4 : Hid (Ext ((w.alloc (.cells #[.int .i64 t, .string u, .string s, .int .i64 kd] 33)).alloc (.cells #[.int .i64 0, .int .i64 0] 37)) w4) := hide (by rw [h4]; exact below_drewN E2.out _)
  clear h4 a0 a1 a2 a3 c0 c1 f0 f1 z1 s1 s2 HB
  obtain ⟨⟨a0, a1, a2, a3⟩, _⟩ := HCL.out w4 E4.out
  have HCQ := hide (fun (W : World) (hW : Ext w W) => cloneH_any (H2.out.ext hW) (by omega))
  go_quiet (fail)
  go_wp2_with fail
  refine (HCQ.out _ (Ext.trans HX.out (below_drewN E4.out _))).mono ?_
  rintro e w3 ⟨A3, c3, rfl, o3, e3⟩
  obtain ⟨g, rfl, hgb, hgl⟩ := o3.where_ (by omega) HLN.out
  have E3 := hide (Ext.trans (below_drewN E4.out _) e3)
  have hgb' : w4.heap.size ≤ g := hgb
  have zz := E4.out.size
  simp only [World.size_alloc] at zz
  have hgne : w.heap.size + 1 < g := by omega
  clear hgb hgb' zz
  have v2 := (o3.atS len_eHd).cellK hih d0H 2 _ rfl
  have fz := o3.frozen3 (i * 3 + 2)
  simp only [Nat.zero_add] at v2
  have O3 := hide o3
  clear o3 e3 a0 a1 a2 a3
  obtain ⟨⟨a0, a1, a2, a3⟩, ⟨c0, c1⟩, ⟨f0, f1⟩, z1, b1⟩ := HCL.out w3 E3.out
  have HB := hide b1
  clear b1 a0 a1 a2 a3
  go_upto_region 16 with (fail)
  refine gen_wp4 fun w5 h5 => ?_
  have hne : w.heap.size + 1 ≠ g := by omega
  have hls : hs.set i ((hs.getD i d0H).1, (hs.getD i d0H).2.1, t) = hs.set i (u, s, t) := by
    obtain ⟨hi1, hi2, hi3, _⟩ := HI.out
    rw [show hs.getD i d0H = hs[i] by simp [List.getD, hi1], hi2, hi3]
  have O5 := hide (show Own w5 _ 95 3 eHd (.slice (some ⟨g, 0, none⟩) hn c3) (hs.set i (u, s, t)) from by rw [h5, ← hls]; exact O3.out.set3 i t)
  have B5 := hide (show Blk w5 (w.heap.size + 1) 37 #[.int .i64 0, .int .i64 0] from by rw [h5]; exact HB.out.far hne _)
  have E5 : Hid (Ext w w5) := hide (by
    have ew := Ext.trans HX.out E3.out
    rw [h5]
    exact (by repeat' (first | (with_reducible exact Below.refl _ _) | (with_reducible assumption) | (with_reducible refine below_drewN ?_ _) | (with_reducible refine Below.drew ?_) | (with_reducible refine ext_alloc ?_ _) | (with_reducible refine Below.setCell ?_ ?_ _) | go_size)))
  have hgn : (Value.slice (some ⟨g, 0, none⟩) hn c3).ownBlock ≠ some (w.heap.size + 1) := by
    intro h
    injection h with h
    exact hne h.symm
  have HGN := hide hgn
  clear h5 hls hgn c0 c1 f0 f1 z1 v2 fz HB
  have c0 := B5.out.cell 0
  have c1 := B5.out.cell 1
  have f0 := B5.out.frozen 0
  have f1 := B5.out.frozen 1
  have z1 := B5.out.lt
  have HW := WR.out
  go_wp2_with fail
  refine gen_body fun W3 h3 => ?_
  have B3 : Blk W3 (w.heap.size + 1) 37 #[.int .i64 0, .int .i64 (t)] := by rw [h3]; exact (B5.out.set_ 0 _).set_ 1 _
  have E6 : Ext w W3 := by
    have ew := E5.out
    rw [h3]
    exact (by repeat' (first | (with_reducible exact Below.refl _ _) | (with_reducible assumption) | (with_reducible refine below_drewN ?_ _) | (with_reducible refine Below.drew ?_) | (with_reducible refine ext_alloc ?_ _) | (with_reducible refine Below.setCell ?_ ?_ _) | go_size))
  have O6 := O5.out.kept (grown_set3 w5 (w.heap.size + 1) 0 (.int .i64 0)) (.inr HGN.out)
  have O7 := O6.kept (grown_set3 _ (w.heap.size + 1) 1 (.int .i64 (t))) (.inr HGN.out)
  have hgW : g < W3.heap.size := by rw [h3]; exact (O7.lt g rfl).2
  have P7 : At W3 3 eHd (some ⟨g, 0, none⟩) hn c3 (hs.set i (u, s, t)) := by rw [h3]; exact O7.atS len_eHd
  have k0 := B3.cell 0
  have k1 := B3.cell 1
  clear h3 c0 c1 f0 f1 z1 O6 O7
  refine bodyPost_ret (v := .tuple #[.agg #[.int .i64 0, .int .i64 (t)], .slice (some ⟨g, 0, none⟩) hn c3]) (by simp [results, Try.results31, go_sem, k0, k1]) rfl ⟨_, _, _, rfl, P7, E6, .inr ⟨g, rfl, by omega, hgW⟩⟩
set_option maxRecDepth 100000 in
set_option maxHeartbeats 4000000 in
theorem refAns_keep {k i : Nat} (h : At w 3 eS sA sn sc L) (h2 : At w 3 eHd hA hn hc hs) (hk : L.findIdx? (seatP u) = some k) (ht : 0 ≤ t ∧ t ≤ 1000000000000000) (hg : 1 ≤ (L.getD k d0S).2.2 ∧ (L.getD k d0S).2.2 ≤ 1000000000000000) (hi : hs.findIdx? (heldP u s t) = some i) (hn2 : hn ≤ 3000) (hq : kd ≠ 3) :
    Calls Try.prog 31 #[.slice sA sn sc, .slice hA hn hc, .agg #[.int .i64 t, .string u, .string s, .int .i64 kd]] w (AnsGives w hA ((0, t + (L.getD k d0S).2.2), hs.set i (u, s, t + (L.getD k d0S).2.2))) := by
  have HS := hide (fun (W : World) (hW : Ext w W) => refSeatsOf_any (h.ext hW) u)
  rw [idx_some hk] at HS
  have HO := hide (fun (W : World) (hW : Ext w W) => refLeaseOf_any (h2.ext hW) t u s kd)
  rw [idx_some hi] at HO
  have hks : k < sn := by
    have := (List.findIdx?_eq_some_iff_getElem.1 hk).1
    have := h.len; omega
  have HSC := hide (fun (W : World) (hW : Ext w W) => (h.ext hW))
  have HX : Hid (Ext w ((w.alloc (.cells #[.int .i64 t, .string u, .string s, .int .i64 kd] 33)).alloc (.cells #[.int .i64 0, .int .i64 0] 37))) := hide (ext_alloc (Ext.alloc _ _) _)
  have HCL := hide (fun (W : World) hW => ans_cells w t u s kd (W := W) hW)
  have H2 := hide h2
  have hbs := h.bound
  have hbh := h2.bound
  obtain ⟨b, off, rfl, hcl0⟩ := h.addr (by omega)
  clear hcl0
  have HI := hide (find_held hi)
  have HLN := hide h2.len
  have hih : i < hn := by have := HI.out.1; have := HLN.out; omega
  have q3 : (0 : Int) ≤ (i : Int) := by omega
  have q4 : (i : Int) < (hn : Int) := by omega
  have q5 : decide ((i : Int) < 0) = false := by simp
  have g1 : (kd == 3) = false := by simp [hq]
  clear hi hq
  clear h h2 hk
  generalize hx : L.getD k d0S = x at *
  have HXX := hide hx
  obtain ⟨xu, xm, xg⟩ := x
  simp only at hg
  have hw1 : IntKind.i64.wrap (t + xg) = t + xg := by rw [IntKind.wrap_i64]; omega
  have q1 : (0 : Int) ≤ (k : Int) := by omega
  have q2 : (k : Int) < (sn : Int) := by omega
  obtain ⟨ht1, ht2⟩ := ht
  obtain ⟨hg1, hg2⟩ := hg
  have WR := hide hw1
  clear hx hw1
  go_enter Try.func31, Try.ntmps31
  go_wp2_with fail
  refine (HS.out _ HX.out).mono ?_
  rintro e w1 ⟨rfl, e1⟩
  obtain ⟨⟨a0, a1, a2, a3⟩, ⟨c0, c1⟩, ⟨f0, f1⟩, z1, b1⟩ := HCL.out w1 e1
  have E1 := hide e1
  clear b1 e1
  go_wp2_with fail
  refine (HO.out _ (Ext.trans HX.out E1.out)).mono ?_
  rintro e w2 ⟨rfl, e2⟩
  have E2 := hide (Ext.trans E1.out e2)
  clear e2 a0 a1 a2 a3 c0 c1 f0 f1 z1
  obtain ⟨⟨a0, a1, a2, a3⟩, ⟨c0, c1⟩, ⟨f0, f1⟩, z1, b1⟩ := HCL.out w2 E2.out
  have s1 := (HSC.out w2 (Ext.trans HX.out E2.out)).cellK hks d0S 1 _ rfl
  have s2 := (HSC.out w2 (Ext.trans HX.out E2.out)).cellK hks d0S 2 _ rfl
  rw [HXX.out] at s1 s2
  simp only at s1 s2
  have HB := hide b1
  clear b1
  go_wp2_with fail
  have hw1 := WR.out
  go_quiet (fail)
  clear hw1
  go_wp2_with fail
  refine gen_wp4 fun w4 h4 => ?_
  have E4 : Hid (Ext ((w.alloc (.cells #[.int .i64 t, .string u, .string s, .int .i64 kd] 33)).alloc (.cells #[.int .i64 0, .int .i64 0] 37)) w4) := hide (by rw [h4]; exact below_drewN E2.out _)
  clear h4 a0 a1 a2 a3 c0 c1 f0 f1 z1 s1 s2 HB
  obtain ⟨⟨a0, a1, a2, a3⟩, _⟩ := HCL.out w4 E4.out
  have HCQ := hide (fun (W : World) (hW : Ext w W) => cloneH_any (H2.out.ext hW) (by omega))
  go_quiet (fail)
  go_wp2_with fail
  refine (HCQ.out _ (Ext.trans HX.out (below_drewN E4.out _))).mono ?_
  rintro e w3 ⟨A3, c3, rfl, o3, e3⟩
  obtain ⟨g, rfl, hgb, hgl⟩ := o3.where_ (by omega) HLN.out
  have E3 := hide (Ext.trans (below_drewN E4.out _) e3)
  have hgb' : w4.heap.size ≤ g := hgb
  have zz := E4.out.size
  simp only [World.size_alloc] at zz
  have hgne : w.heap.size + 1 < g := by omega
  clear hgb hgb' zz
  have v2 := (o3.atS len_eHd).cellK hih d0H 2 _ rfl
  have fz := o3.frozen3 (i * 3 + 2)
  simp only [Nat.zero_add] at v2
  have O3 := hide o3
  clear o3 e3 a0 a1 a2 a3
  obtain ⟨⟨a0, a1, a2, a3⟩, ⟨c0, c1⟩, ⟨f0, f1⟩, z1, b1⟩ := HCL.out w3 E3.out
  have HB := hide b1
  clear b1 a0 a1 a2 a3
  go_upto_region 16 with (fail)
  refine gen_wp4 fun w5 h5 => ?_
  have hne : w.heap.size + 1 ≠ g := by omega
  have hls : hs.set i ((hs.getD i d0H).1, (hs.getD i d0H).2.1, (t + xg)) = hs.set i (u, s, (t + xg)) := by
    obtain ⟨hi1, hi2, hi3, _⟩ := HI.out
    rw [show hs.getD i d0H = hs[i] by simp [List.getD, hi1], hi2, hi3]
  have O5 := hide (show Own w5 _ 95 3 eHd (.slice (some ⟨g, 0, none⟩) hn c3) (hs.set i (u, s, (t + xg))) from by rw [h5, ← hls]; exact O3.out.set3 i (t + xg))
  have B5 := hide (show Blk w5 (w.heap.size + 1) 37 #[.int .i64 0, .int .i64 0] from by rw [h5]; exact HB.out.far hne _)
  have E5 : Hid (Ext w w5) := hide (by
    have ew := Ext.trans HX.out E3.out
    rw [h5]
    exact (by repeat' (first | (with_reducible exact Below.refl _ _) | (with_reducible assumption) | (with_reducible refine below_drewN ?_ _) | (with_reducible refine Below.drew ?_) | (with_reducible refine ext_alloc ?_ _) | (with_reducible refine Below.setCell ?_ ?_ _) | go_size)))
  have hgn : (Value.slice (some ⟨g, 0, none⟩) hn c3).ownBlock ≠ some (w.heap.size + 1) := by
    intro h
    injection h with h
    exact hne h.symm
  have HGN := hide hgn
  clear h5 hls hgn c0 c1 f0 f1 z1 v2 fz HB
  have c0 := B5.out.cell 0
  have c1 := B5.out.cell 1
  have f0 := B5.out.frozen 0
  have f1 := B5.out.frozen 1
  have z1 := B5.out.lt
  have HW := WR.out
  go_wp2_with fail
  refine gen_body fun W3 h3 => ?_
  have B3 : Blk W3 (w.heap.size + 1) 37 #[.int .i64 0, .int .i64 ((t + xg))] := by rw [h3]; exact (B5.out.set_ 0 _).set_ 1 _
  have E6 : Ext w W3 := by
    have ew := E5.out
    rw [h3]
    exact (by repeat' (first | (with_reducible exact Below.refl _ _) | (with_reducible assumption) | (with_reducible refine below_drewN ?_ _) | (with_reducible refine Below.drew ?_) | (with_reducible refine ext_alloc ?_ _) | (with_reducible refine Below.setCell ?_ ?_ _) | go_size))
  have O6 := O5.out.kept (grown_set3 w5 (w.heap.size + 1) 0 (.int .i64 0)) (.inr HGN.out)
  have O7 := O6.kept (grown_set3 _ (w.heap.size + 1) 1 (.int .i64 ((t + xg)))) (.inr HGN.out)
  have hgW : g < W3.heap.size := by rw [h3]; exact (O7.lt g rfl).2
  have P7 : At W3 3 eHd (some ⟨g, 0, none⟩) hn c3 (hs.set i (u, s, (t + xg))) := by rw [h3]; exact O7.atS len_eHd
  have k0 := B3.cell 0
  have k1 := B3.cell 1
  clear h3 c0 c1 f0 f1 z1 O6 O7
  refine bodyPost_ret (v := .tuple #[.agg #[.int .i64 0, .int .i64 ((t + xg))], .slice (some ⟨g, 0, none⟩) hn c3]) (by simp [results, Try.results31, go_sem, k0, k1]) rfl ⟨_, _, _, rfl, P7, E6, .inr ⟨g, rfl, by omega, hgW⟩⟩
end
end Go.Proofs.Ytfpmjaeehhegcaa
