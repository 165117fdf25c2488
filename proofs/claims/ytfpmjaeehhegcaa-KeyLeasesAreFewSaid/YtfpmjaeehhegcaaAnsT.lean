/- Walks: answer of the reference, where it gives a new lease; answer as a whole. Conditions: as stated. -/
import Derived.Test.YtfpmjaeehhegcaaAnsS
import Derived.Test.YtfpmjaeehhegcaaStep
namespace Go.Proofs.Ytfpmjaeehhegcaa
open Go.RowKit
theorem At.newHd (w : World) (x : HeldV) (T : TypeId) : At (w.alloc (.cells #[.string x.1, .string x.2.1, .int .i64 x.2.2] T)) 3 eHd (some ⟨w.heap.size, 0, none⟩) 1 1 [x] :=
  ⟨rfl, Nat.le_refl _, by unfold maxLen; omega, fun h => (by cases h), fun k z hz => ⟨_, _, rfl, fun j v hv => by
    match k, hz with
    | 0, hz =>
      simp at hz; subst hz
      match j, hv with
      | 0, hv => simp at hv; subst hv; exact (Blk.new w _ _).cell 0
      | 1, hv => simp at hv; subst hv; exact (Blk.new w _ _).cell 1
      | 2, hv => simp at hv; subst hv; exact (Blk.new w _ _).cell 2
      | j + 3, hv => simp at hv
    | k + 1, hz => simp at hz⟩⟩
section
variable {sA hA : Option Addr} {sn sc hn hc : Nat} {L : List SeatV} {hs : List HeldV} {t kd : Int} {u s : ByteArray} {w : World}
set_option maxRecDepth 100000 in
set_option maxHeartbeats 4000000 in
theorem refAns_new {k : Nat} (h : At w 3 eS sA sn sc L) (h2 : At w 3 eHd hA hn hc hs) (hk : L.findIdx? (seatP u) = some k) (ht : 0 ≤ t ∧ t ≤ 1000000000000000) (hg : 1 ≤ (L.getD k d0S).2.2 ∧ (L.getD k d0S).2.2 ≤ 1000000000000000) (hi : hs.findIdx? (heldP u s t) = none) (hn2 : hn ≤ 3000) (hq : kd = 1) (hf : ¬ (L.getD k d0S).2.1 ≤ (lastN hs u t : Nat)) :
    Calls Try.prog 31 #[.slice sA sn sc, .slice hA hn hc, .agg #[.int .i64 t, .string u, .string s, .int .i64 kd]] w (AnsGives w hA ((0, t + (L.getD k d0S).2.2), hs ++ [(u, s, t + (L.getD k d0S).2.2)])) := by
  have HS := hide (fun (W : World) (hW : Ext w W) => refSeatsOf_any (h.ext hW) u)
  rw [idx_some hk] at HS
  have HO := hide (fun (W : World) (hW : Ext w W) => refLeaseOf_any (h2.ext hW) t u s kd)
  rw [idx_none hi] at HO
  have hks : k < sn := by
    have := (List.findIdx?_eq_some_iff_getElem.1 hk).1
    have := h.len; omega
  have HSC := hide (fun (W : World) (hW : Ext w W) => (h.ext hW))
  have HX : Hid (Ext w ((w.alloc (.cells #[.int .i64 t, .string u, .string s, .int .i64 kd] 33)).alloc (.cells #[.int .i64 0, .int .i64 0] 37))) := hide (ext_alloc (Ext.alloc _ _) _)
  have HCL := hide (fun (W : World) hW => ans_cells w t u s kd (W := W) hW)
  have H2 := hide h2
  have hbs := h.bound
  have hbh := h2.bound
  obtain ⟨b, off, rfl, hcl0⟩ := h.addr (by omega)
  clear hcl0
  obtain ⟨i0, hi0, hz0, hz1, hz2⟩ := info_parts Try.info95
  have HLN := hide h2.len
  have g1 : (kd != 1) = false := by simp [hq]
  have HLA := hide (fun (W : World) (hW : Ext w W) => refLasting_any (h2.ext hW) u t)
  generalize lastN hs u t = ln at *
  clear hi hq
  clear h h2 hk
  generalize hx : L.getD k d0S = x at *
  have HXX := hide hx
  obtain ⟨xu, xm, xg⟩ := x
  simp only at hg
  have hw1 : IntKind.i64.wrap (t + xg) = t + xg := by rw [IntKind.wrap_i64]; omega
  have q1 : (0 : Int) ≤ (k : Int) := by omega
  have q2 : (k : Int) < (sn : Int) := by omega
  obtain ⟨ht1, ht2⟩ := ht
  obtain ⟨hg1, hg2⟩ := hg
  simp only at hf
  have g2 : decide (xm ≤ (ln : Int)) = false := by simpa using hf
  clear hf
  have WR := hide hw1
  clear hx hw1
  go_enter Try.func31, Try.ntmps31
  go_wp2_with fail
  refine (HS.out _ HX.out).mono ?_
  rintro e w1 ⟨rfl, e1⟩
  obtain ⟨⟨a0, a1, a2, a3⟩, ⟨c0, c1⟩, ⟨f0, f1⟩, z1, b1⟩ := HCL.out w1 e1
  have E1 := hide e1
  clear b1 e1
  go_wp2_with fail
  refine (HO.out _ (Ext.trans HX.out E1.out)).mono ?_
  rintro e w2 ⟨rfl, e2⟩
  have E2 := hide (Ext.trans E1.out e2)
  clear e2 a0 a1 a2 a3 c0 c1 f0 f1 z1
  obtain ⟨⟨a0, a1, a2, a3⟩, ⟨c0, c1⟩, ⟨f0, f1⟩, z1, b1⟩ := HCL.out w2 E2.out
  have s1 := (HSC.out w2 (Ext.trans HX.out E2.out)).cellK hks d0S 1 _ rfl
  have s2 := (HSC.out w2 (Ext.trans HX.out E2.out)).cellK hks d0S 2 _ rfl
  rw [HXX.out] at s1 s2
  simp only at s1 s2
  have HB := hide b1
  clear b1
  go_wp2_with fail
  have hw1 := WR.out
  go_quiet (fail)
  clear hw1
  go_wp2_with fail
  refine gen_wp4 fun w3 h3 => ?_
  have E3 : Hid (Ext ((w.alloc (.cells #[.int .i64 t, .string u, .string s, .int .i64 kd] 33)).alloc (.cells #[.int .i64 0, .int .i64 0] 37)) w3) := hide (by rw [h3]; exact below_drewN E2.out _)
  clear h3 a0 a1 a2 a3 c0 c1 f0 f1 z1 s1 s2 HB
  obtain ⟨⟨a0, a1, a2, a3⟩, _⟩ := HCL.out w3 E3.out
  have s1 := (HSC.out w3 (Ext.trans HX.out E3.out)).cellK hks d0S 1 _ rfl
  rw [HXX.out] at s1
  simp only at s1
  have EX := Ext.drew w3
  go_region_held3 (fun w' => w'.cell? ⟨w.heap.size, 0, none⟩ = some (.int .i64 t) ∧ w'.cell? ⟨w.heap.size, 1, none⟩ = some (.string u) ∧ w'.cell? ⟨b, off + k * 3 + 1, none⟩ = some (.int .i64 xm)) (first | go_keep | exact ⟨EX.cell a0, EX.cell a1, EX.cell s1⟩) (first | ((go_at_call 34; with_reducible refine (HLA.out _ (Ext.trans (Ext.trans HX.out E3.out) EX)).mono ?_); rintro e w5 ⟨rfl, e5⟩; have EX := Ext.trans EX e5))
  have E5 := hide (Ext.trans E3.out EX)
  clear EX a0 a1 a2 a3 s1
  obtain ⟨⟨a0, a1, a2, a3⟩, ⟨c0, c1⟩, ⟨f0, f1⟩, z1, b1⟩ := HCL.out _ E5.out
  have HB := hide b1
  clear b1
  go_wp2_with fail
  refine gen_wp4 fun w5 h5 => ?_
  have E6 : Hid (Ext ((w.alloc (.cells #[.int .i64 t, .string u, .string s, .int .i64 kd] 33)).alloc (.cells #[.int .i64 0, .int .i64 0] 37)) w5) := hide (by rw [h5]; exact E5.out)
  clear h5 a0 a1 a2 a3 c0 c1 f0 f1 z1 HB
  obtain ⟨⟨a0, a1, a2, a3⟩, _⟩ := HCL.out w5 E6.out
  have HCQ := hide (fun (W : World) (hW : Ext w W) => cloneH_any (H2.out.ext hW) (by omega))
  have S1 : Hid (hs.length + 1 ≤ maxLen) := hide (by have := HLN.out; unfold maxLen; omega)
  have S2 : Hid ((hs.length + 1) * 40 ≤ 140737488355328) := hide (by have := HLN.out; omega)
  have EX := Ext.drew w5
  go_region_held3 (fun w' => w'.cell? ⟨w.heap.size, 1, none⟩ = some (.string u) ∧ w'.cell? ⟨w.heap.size, 2, none⟩ = some (.string s)) (first | go_keep | exact ⟨EX.cell a1, EX.cell a2⟩ | exact ⟨(show Ext w5 _ from (by repeat' (first | (with_reducible exact Below.refl _ _) | (with_reducible assumption) | (with_reducible refine below_drewN ?_ _) | (with_reducible refine Below.drew ?_) | (with_reducible refine ext_alloc ?_ _) | (with_reducible refine Below.setCell ?_ ?_ _) | go_size))).cell a1, (show Ext w5 _ from (by repeat' (first | (with_reducible exact Below.refl _ _) | (with_reducible assumption) | (with_reducible refine below_drewN ?_ _) | (with_reducible refine Below.drew ?_) | (with_reducible refine ext_alloc ?_ _) | (with_reducible refine Below.setCell ?_ ?_ _) | go_size))).cell a2⟩ | exact ⟨(show Ext w5 _ from Ext.trans EX (by repeat' (first | (with_reducible exact Below.refl _ _) | (with_reducible assumption) | (with_reducible refine below_drewN ?_ _) | (with_reducible refine Below.drew ?_) | (with_reducible refine ext_alloc ?_ _) | (with_reducible refine Below.setCell ?_ ?_ _) | go_size))).cell a1, (show Ext w5 _ from Ext.trans EX (by repeat' (first | (with_reducible exact Below.refl _ _) | (with_reducible assumption) | (with_reducible refine below_drewN ?_ _) | (with_reducible refine Below.drew ?_) | (with_reducible refine ext_alloc ?_ _) | (with_reducible refine Below.setCell ?_ ?_ _) | go_size))).cell a2⟩) (first
    | ((go_at_call 52; with_reducible refine (HCQ.out _ (Ext.trans (Ext.trans HX.out E6.out) (show Ext w5 _ from (by repeat' (first | (with_reducible exact Below.refl _ _) | (with_reducible assumption) | (with_reducible refine below_drewN ?_ _) | (with_reducible refine Below.drew ?_) | (with_reducible refine ext_alloc ?_ _) | (with_reducible refine Below.setCell ?_ ?_ _) | go_size))))).mono ?_); rintro e w6 ⟨A6, c6, rfl, o6, e6⟩; have O6 := hide o6; have Y6 := hide e6; have EX := Ext.trans (show Ext w5 _ from (by repeat' (first | (with_reducible exact Below.refl _ _) | (with_reducible assumption) | (with_reducible refine below_drewN ?_ _) | (with_reducible refine Below.drew ?_) | (with_reducible refine ext_alloc ?_ _) | (with_reducible refine Below.setCell ?_ ?_ _) | go_size))) e6; clear o6 e6)
    | ((refine step_append_at rfl (.tmp 65) (.tmp 72) 65 rfl _ 95 i0 _ 40 Try.underlying65 hi0 hz0 hz1 hz2 rfl (by omega) len_eHd one_eHd _ _ (by rfl) (O6.out.ext (by repeat' (first | (with_reducible exact Below.refl _ _) | (with_reducible assumption) | (with_reducible refine below_drewN ?_ _) | (with_reducible refine Below.drew ?_) | (with_reducible refine ext_alloc ?_ _) | (with_reducible refine Below.setCell ?_ ?_ _) | go_size))) (some ⟨w6.heap.size, 0, none⟩) 1 1 [(u, s, t + xg)] (by simp [Act.eval]) ((At.newHd w6 (u, s, t + xg) _).ext (by repeat' (first | (with_reducible exact Below.refl _ _) | (with_reducible assumption) | (with_reducible refine below_drewN ?_ _) | (with_reducible refine Below.drew ?_) | (with_reducible refine ext_alloc ?_ _) | (with_reducible refine Below.setCell ?_ ?_ _) | go_size))) S1.out S2.out (Nat.le_trans Y6.out.size (by simp)) ?_); intro v7 w7 o7 g7 _ _; have O7 := hide o7; have E7 := hide (Own.below (w0 := w5) (O6.out.ext (by repeat' (first | (with_reducible exact Below.refl _ _) | (with_reducible assumption) | (with_reducible refine below_drewN ?_ _) | (with_reducible refine Below.drew ?_) | (with_reducible refine ext_alloc ?_ _) | (with_reducible refine Below.setCell ?_ ?_ _) | go_size))) (Ext.trans EX (by repeat' (first | (with_reducible exact Below.refl _ _) | (with_reducible assumption) | (with_reducible refine below_drewN ?_ _) | (with_reducible refine Below.drew ?_) | (with_reducible refine ext_alloc ?_ _) | (with_reducible refine Below.setCell ?_ ?_ _) | go_size))) g7 (Nat.le_refl _)); obtain ⟨⟨_, r1, r2, _⟩, ⟨c0, c1⟩, ⟨f0, f1⟩, z1, b1⟩ := HCL.out w7 (Ext.trans E6.out E7.out); have HB := hide b1; clear o7 g7 b1)
    | ((refine step_append_at rfl (.tmp 65) (.tmp 72) 65 rfl _ 95 i0 _ 40 Try.underlying65 hi0 hz0 hz1 hz2 rfl (by omega) len_eHd one_eHd _ _ (by rfl) (O6.out.ext (by repeat' (first | (with_reducible exact Below.refl _ _) | (with_reducible assumption) | (with_reducible refine below_drewN ?_ _) | (with_reducible refine Below.drew ?_) | (with_reducible refine ext_alloc ?_ _) | (with_reducible refine Below.setCell ?_ ?_ _) | go_size))) (some ⟨w5.heap.size, 0, none⟩) 1 1 [(u, s, t + xg)] (by simp [Act.eval]) (((At.newHd w5 (u, s, t + xg) _).ext (Ext.drew _)).ext (Ext.trans Y6.out (by repeat' (first | (with_reducible exact Below.refl _ _) | (with_reducible assumption) | (with_reducible refine below_drewN ?_ _) | (with_reducible refine Below.drew ?_) | (with_reducible refine ext_alloc ?_ _) | (with_reducible refine Below.setCell ?_ ?_ _) | go_size)))) S1.out S2.out (Nat.le_trans Y6.out.size (by simp)) ?_); intro v7 w7 o7 g7 _ _; have O7 := hide o7; have E7 := hide (Own.below (w0 := w5) (O6.out.ext (by repeat' (first | (with_reducible exact Below.refl _ _) | (with_reducible assumption) | (with_reducible refine below_drewN ?_ _) | (with_reducible refine Below.drew ?_) | (with_reducible refine ext_alloc ?_ _) | (with_reducible refine Below.setCell ?_ ?_ _) | go_size))) (Ext.trans EX (by repeat' (first | (with_reducible exact Below.refl _ _) | (with_reducible assumption) | (with_reducible refine below_drewN ?_ _) | (with_reducible refine Below.drew ?_) | (with_reducible refine ext_alloc ?_ _) | (with_reducible refine Below.setCell ?_ ?_ _) | go_size))) g7 (by simp)); obtain ⟨⟨_, r1, r2, _⟩, ⟨c0, c1⟩, ⟨f0, f1⟩, z1, b1⟩ := HCL.out w7 (Ext.trans E6.out E7.out); have HB := hide b1; clear o7 g7 b1))
  all_goals
    have zz := E6.out.size
    simp only [World.size_alloc] at zz
    have hgn : v7.ownBlock ≠ some (w.heap.size + 1) := by
      intro h
      have h7 := (O7.out.lt _ h).1
      first
        | (have h8 : w5.heap.size ≤ w.heap.size + 1 := h7; omega)
        | (have h8 : (w5.alloc _).heap.size ≤ w.heap.size + 1 := h7; rw [World.size_alloc] at h8; omega)
    have HGN := hide hgn
    have ho7 := O7.out
    obtain ⟨A7, c7, hv7, _⟩ := ho7.at_ len_eHd
    subst hv7
    have P7 := hide ho7
    have hfr : Hid (∃ g, A7 = some ⟨g, 0, none⟩ ∧ w.heap.size ≤ g) := hide (by
      obtain ⟨g, hA7, hgb, _⟩ := ho7.where_ (by simp) rfl
      refine ⟨g, hA7, ?_⟩
      first
        | (have h8 : w5.heap.size ≤ g := hgb; omega)
        | (have h8 : (w5.alloc _).heap.size ≤ g := hgb; rw [World.size_alloc] at h8; omega))
    have E8 := hide (Ext.trans HX.out (Ext.trans E6.out E7.out))
    clear zz hgn ho7 O7 EX
    go_wp2_with fail
    refine gen_body fun W3 h3 => ?_
    have B3 : Blk W3 (w.heap.size + 1) 37 #[.int .i64 0, .int .i64 (t + xg)] := by rw [h3]; exact (HB.out.set_ 0 _).set_ 1 _
    have E9 : Ext w W3 := by
      have ew := E8.out
      rw [h3]
      exact (by repeat' (first | (with_reducible exact Below.refl _ _) | (with_reducible assumption) | (with_reducible refine below_drewN ?_ _) | (with_reducible refine Below.drew ?_) | (with_reducible refine ext_alloc ?_ _) | (with_reducible refine Below.setCell ?_ ?_ _) | go_size))
    have O8 := P7.out.kept (grown_set3 w7 (w.heap.size + 1) 0 (.int .i64 0)) (.inr HGN.out)
    have O9 := O8.kept (grown_set3 _ (w.heap.size + 1) 1 (.int .i64 (t + xg))) (.inr HGN.out)
    have hgW : ∃ g, A7 = some ⟨g, 0, none⟩ ∧ w.heap.size ≤ g ∧ g < W3.heap.size := by
      obtain ⟨g, hg1', hg2'⟩ := hfr.out
      exact ⟨g, hg1', hg2', by rw [h3]; exact (O9.lt g (by rw [hg1']; rfl)).2⟩
    have P9 : At W3 3 eHd A7 (hs ++ [(u, s, t + xg)]).length c7 (hs ++ [(u, s, t + xg)]) := by rw [h3]; exact O9.atS len_eHd
    have k0 := B3.cell 0
    have k1 := B3.cell 1
    clear h3 c0 c1 f0 f1 z1 O8 O9
    refine bodyPost_ret (v := .tuple #[.agg #[.int .i64 0, .int .i64 (t + xg)], .slice A7 (hs ++ [(u, s, t + xg)]).length c7]) (by simp [results, Try.results31, go_sem, k0, k1]) rfl ⟨_, _, _, rfl, P9, E9, .inr hgW⟩
/-- answer of the reference. -/
theorem refAns_any (h : At w 3 eS sA sn sc L) (h2 : At w 3 eHd hA hn hc hs) (ht : 0 ≤ t ∧ t ≤ 1000000000000000) (hg : ∀ x ∈ L, 1 ≤ x.2.2 ∧ x.2.2 ≤ 1000000000000000) (hn2 : hn ≤ 3000) :
    Calls Try.prog 31 #[.slice sA sn sc, .slice hA hn hc, .agg #[.int .i64 t, .string u, .string s, .int .i64 kd]] w (AnsGives w hA (ansF L hs (t, u, s, kd))) := by
  cases hk : L.findIdx? (seatP u) with
  | none =>
    have e : ansF L hs (t, u, s, kd) = ((14, 0), hs) := by unfold ansF; simp only [hk]
    rw [e]; exact refAns_denied h h2 hk
  | some k =>
    have hkl := (List.findIdx?_eq_some_iff_getElem.1 hk).1
    have e2 : (L.map fun s => s.2.2).getD k 0 = (L.getD k d0S).2.2 := by simp [List.getD, hkl]
    have e1 : (L.map fun s => s.2.1).getD k 0 = (L.getD k d0S).2.1 := by simp [List.getD, hkl]
    have hg' := hg _ (getD_mem L k d0S hkl)
    cases hi : hs.findIdx? (heldP u s t) with
    | none =>
      by_cases hq : kd = 1
      · by_cases hf : (L.getD k d0S).2.1 ≤ (lastN hs u t : Nat)
        · have e : ansF L hs (t, u, s, kd) = ((17, 0), hs) := by unfold ansF; simp only [hk, hi, e1, e2]; rw [if_neg (by simp [hq]), if_pos hf]
          rw [e]; exact refAns_full h h2 hk ht hg' hi hq hf
        · have e : ansF L hs (t, u, s, kd) = ((0, t + (L.getD k d0S).2.2), hs ++ [(u, s, t + (L.getD k d0S).2.2)]) := by unfold ansF; simp only [hk, hi, e1, e2]; rw [if_neg (by simp [hq]), if_neg hf]
          rw [e]; exact refAns_new h h2 hk ht hg' hi hn2 hq hf
      · have e : ansF L hs (t, u, s, kd) = ((11, 0), hs) := by unfold ansF; simp only [hk, hi]; rw [if_pos hq]
        rw [e]; exact refAns_state h h2 hk ht hg' hi hq
    | some i =>
      by_cases hq : kd = 3
      · have e : ansF L hs (t, u, s, kd) = ((0, t), hs.set i (u, s, t)) := by unfold ansF; simp only [hk, hi]; rw [if_pos hq]
        rw [e]; exact refAns_stop h h2 hk ht hg' hi hn2 hq
      · have e : ansF L hs (t, u, s, kd) = ((0, t + (L.getD k d0S).2.2), hs.set i (u, s, t + (L.getD k d0S).2.2)) := by unfold ansF; simp only [hk, hi, e2]; rw [if_neg hq]
        rw [e]; exact refAns_keep h h2 hk ht hg' hi hn2 hq
end
end Go.Proofs.Ytfpmjaeehhegcaa
