/- Proved: for every scheme, key, iv, bytes and list KeyFewerTouchTheSame returns true: a list with as few elements as possible has the same parts; the arguments read as they did. Conditions: none. -/
import Derived.Test.YtifmgngmkajahaaCodE
import Derived.Test.YtifmgngmkajahaaFewer
import Derived.Test.YtifmgngmkajahaaOpen
import Derived.Test.YtifmgngmkajahaaAwake
namespace Go.Proofs.Ytifmgngmkajahaa
open Go.ChangeShapes Go.WideShapes Go.ChangeAt Go.RowKit Kc

/-- All bytes of elements. -/
theorem sumS_app (A B : List (Int × Int)) : sumS (A ++ B) = sumS A + sumS B := by
  have h : ∀ (L : List (Int × Int)) (z : Int), L.foldl (fun a x => a + (x.1 + x.2)) z = z + L.foldl (fun a x => a + (x.1 + x.2)) 0 := by
    intro L
    induction L with
    | nil => intro z; simp
    | cons y r ih => intro z; rw [List.foldl_cons, List.foldl_cons, ih (z + _), ih (0 + _)]; omega
  unfold sumS
  rw [List.foldl_append, h]
theorem partP_app (A B : List (Int × Int)) : partP (A ++ B) = ((partP A).1 ++ (partP B).1.map (fun p => (p.1 + (partP A).2, p.2 + (partP A).2)), (partP A).2 + (partP B).2) := by
  have h : ∀ (L : List (Int × Int)) (o : List (Int × Int)) (z : Int), L.foldl (fun (st : List (Int × Int) × Int) s => (st.1 ++ [(st.2 + s.1, st.2 + s.1 + s.2)], st.2 + (s.1 + s.2))) (o, z) =
      (o ++ (partP L).1.map (fun p => (p.1 + z, p.2 + z)), z + (partP L).2) := by
    intro L
    induction L with
    | nil => intro o z; simp [partP]
    | cons y r ih =>
      intro o z
      unfold partP
      rw [List.foldl_cons, List.foldl_cons, ih, ih]
      simp only [List.map_append, List.map_map, List.map_cons, List.map_nil, List.append_assoc, List.nil_append]
      refine Prod.ext ?_ ?_
      · simp only [List.cons_append, List.nil_append]
        congr 1
        congr 1
        · exact Prod.ext (by simp only; omega) (by simp only; omega)
        · apply List.map_congr_left
          intro p _
          simp only [Function.comp]
          exact Prod.ext (by simp only; omega) (by simp only; omega)
      · simp only; omega
  unfold partP
  rw [List.foldl_append]
  exact h B _ _
/-- Both lists have the same parts but for empty ones, the same bytes; the list with fewer is no longer. -/
theorem few_parts {l : List (Int × Int)} (h : ∀ j, j < l.length → subEl l j = 0) : ∀ k, k ≤ l.length →
    (partP (fewR (l.take k)).1).1 = (partP (l.take k)).1.filter (fun p => decide (p.1 < p.2)) ∧ (partP (fewR (l.take k)).1).2 + (fewR (l.take k)).2 = (partP (l.take k)).2 ∧
    (fewR (l.take k)).1.length + (if 0 < (fewR (l.take k)).2 then 1 else 0) ≤ k ∧ sumS (fewR (l.take k)).1 + (fewR (l.take k)).2 = sumS (l.take k) ∧ (∀ x ∈ (fewR (l.take k)).1, 0 ≤ x.1 ∧ 0 < x.2 ∧ x.2 ≤ 100000)
  | 0, _ => by simp [fewR, partP, sumS]
  | k + 1, hk => by
    obtain ⟨h1, h2, h3, h4, h5⟩ := few_parts h k (by omega)
    obtain ⟨g1, g2, g3, g4, g5⟩ := few_same h k (by omega)
    obtain ⟨e1, e2, e3⟩ := subEl_zero (h k (by omega))
    have hst : fewR (l.take (k + 1)) = if 0 < (l.getD k (0, 0)).2 then ((fewR (l.take k)).1 ++ [((fewR (l.take k)).2 + (l.getD k (0, 0)).1, (l.getD k (0, 0)).2)], 0) else ((fewR (l.take k)).1, (fewR (l.take k)).2 + (l.getD k (0, 0)).1) := by
      unfold fewR; rw [foldl_take _ _ _ _ (0, 0) (by omega)]
    rw [getD_take l k (0, 0) (by omega), partP_app, sumS_app, ← getD_take l k (0, 0) (by omega), hst]
    generalize l.getD k (0, 0) = s at *
    generalize fewR (l.take k) = st at *
    obtain ⟨out, cl⟩ := st
    obtain ⟨s0, s1⟩ := s
    simp only at h1 h2 h3 h4 h5 g3 e1 e2 e3 ⊢
    have p1 : partP [(s0, s1)] = ([(s0, s0 + s1)], s0 + s1) := by simp [partP]
    have p2 : sumS [(s0, s1)] = s0 + s1 := by simp [sumS]
    rw [p1, p2]
    by_cases hs : 0 < s1
    · simp only [hs, if_true]
      have p3 : partP [(cl + s0, s1)] = ([(cl + s0, cl + s0 + s1)], cl + s0 + s1) := by simp [partP]
      have p4 : sumS [(cl + s0, s1)] = cl + s0 + s1 := by simp [sumS]
      rw [partP_app, sumS_app, p3, p4]
      refine ⟨?_, by simp only; omega, by simp; split at h3 <;> omega, by omega, ?_⟩
      · simp only [List.map_cons, List.map_nil]
        rw [List.filter_append, h1, List.filter_cons, if_pos (by simp only [decide_eq_true_eq]; omega), List.filter_nil]
        congr 2
        exact Prod.ext (by simp only; omega) (by simp only; omega)
      · intro x hx
        rcases List.mem_append.1 hx with hx | hx
        · exact h5 x hx
        · simp at hx; subst hx; simp only; omega
    · have hs1 : s1 = 0 := by omega
      simp only [hs, if_false]
      refine ⟨?_, by omega, ?_, by omega, h5⟩
      · simp only [List.map_cons, List.map_nil]
        rw [List.filter_append, h1, List.filter_cons, if_neg (by simp only [decide_eq_true_eq]; omega), List.filter_nil, List.append_nil]
      · split at h3 <;> split <;> omega
/-- The list with fewer elements is right where the other one is, with the same parts. -/
theorem few_law {l : List (Int × Int)} {z : Int} (h : listF l z = 0) (hz : 0 ≤ z ∧ z ≤ 100000) :
    listF (fewP l) z = 0 ∧ (partsP (fewP l) z).filter (fun p => decide (p.1 < p.2)) = (partsP l z).filter (fun p => decide (p.1 < p.2)) ∧ (fewP l).length ≤ l.length := by
  obtain ⟨h1, h2⟩ := listF_zero h
  obtain ⟨h3, h4⟩ := subsF_zero h1
  obtain ⟨q1, q2, q3, q4, q5⟩ := few_parts h4 l.length (Nat.le_refl _)
  obtain ⟨g1, g2, g3, g4, g5⟩ := few_same h4 l.length (Nat.le_refl _)
  rw [List.take_length] at q1 q2 q3 q4 q5 g1 g2 g3 g4 g5
  rw [g1]
  by_cases h0 : l.length = 0
  · obtain rfl : l = [] := List.eq_nil_of_length_eq_zero h0
    have e : fewE (fewR []) = [] := by simp [fewR, fewE]
    rw [e]
    exact ⟨h, rfl, Nat.le_refl _⟩
  · have hs := h2 (by omega)
    have hpp : partsP l z = (partP l).1 := by unfold partsP; rw [if_neg h0]
    generalize fewR l = st at *
    obtain ⟨out, cl⟩ := st
    simp only at q1 q2 q3 q4 q5 g2 g3 g4 g5
    have hsum : sumS (fewE (out, cl)) = z := by
      unfold fewE
      simp only
      split
      · rw [sumS_app, ← hs, ← q4]; simp [sumS]
      · omega
    have hlen : (fewE (out, cl)).length ≤ l.length := by
      unfold fewE
      simp only
      split
      · rename_i hc; rw [if_pos hc] at q3; simp; omega
      · rename_i hc; rw [if_neg hc] at q3; omega
    have hnn : ∀ x ∈ fewE (out, cl), 0 ≤ x.1 ∧ 0 ≤ x.2 ∧ x.2 ≤ 100000 ∧ ¬ (x.1 = 0 ∧ x.2 = 0) := by
      intro x hx
      unfold fewE at hx
      simp only at hx
      split at hx
      · rcases List.mem_append.1 hx with hx | hx
        · have := q5 x hx; omega
        · simp at hx; subst hx; simp only; omega
      · have := q5 x hx; omega
    have hle : ∀ (L : List (Int × Int)), (∀ x ∈ L, 0 ≤ x.1 ∧ 0 ≤ x.2) → 0 ≤ sumS L ∧ ∀ x ∈ L, x.1 ≤ sumS L := by
      intro L
      induction L with
      | nil => intro _; exact ⟨by simp [sumS], fun x hx => by simp at hx⟩
      | cons y r ih =>
        intro hh
        obtain ⟨i1, i2⟩ := ih (fun x hx => hh x (List.mem_cons_of_mem _ hx))
        have hy := hh y (by simp)
        have e : sumS (y :: r) = y.1 + y.2 + sumS r := by
          have := sumS_app [y] r
          simpa [sumS] using this
        rw [e]
        refine ⟨by omega, fun x hx => ?_⟩
        rcases List.mem_cons.1 hx with rfl | hx
        · omega
        · have := i2 x hx; omega
    have hsub : subsF (fewE (out, cl)) = 0 := by
      unfold subsF
      rw [if_neg (by omega)]
      apply firstF_zero
      intro j hj
      have hm := getD_mem (fewE (out, cl)) j (0, 0) hj
      have a1 := hnn _ hm
      have a2 := (hle _ (fun x hx => ⟨(hnn x hx).1, (hnn x hx).2.1⟩)).2 _ hm
      rw [hsum] at a2
      unfold subEl
      rw [if_neg (by omega), if_neg a1.2.2.2]
    have hne : (fewE (out, cl)).length ≠ 0 ∨ z = 0 := by
      by_cases hl : (fewE (out, cl)).length = 0
      · right
        have : fewE (out, cl) = [] := List.eq_nil_of_length_eq_zero hl
        rw [this] at hsum
        rw [← hsum]; rfl
      · exact .inl hl
    refine ⟨?_, ?_, hlen⟩
    · unfold listF
      rw [if_neg (by omega), if_neg (by rw [hsum]; simp)]
    · rw [hpp, ← q1]
      have hout : (partP out).1.filter (fun p => decide (p.1 < p.2)) = (partP out).1 := by
        rw [q1, List.filter_filter]
        simp
      by_cases hl : (fewE (out, cl)).length = 0
      · have hz0 : z = 0 := by rcases hne with h | h; exact absurd hl h; exact h
        have he : fewE (out, cl) = [] := List.eq_nil_of_length_eq_zero hl
        have ho : out = [] := by
          unfold fewE at he
          simp only at he
          split at he
          · simp at he
          · exact he
        unfold partsP
        rw [if_pos hl, ho, hz0]
        simp [partP]
      · unfold partsP
        rw [if_neg hl]
        unfold fewE
        simp only
        split
        · rename_i hc
          have p3 : partP [(cl, 0)] = ([(cl, cl + 0)], cl + 0) := by simp [partP]
          rw [partP_app, p3]
          simp only [List.map_cons, List.map_nil]
          rw [List.filter_append, hout, List.filter_cons, if_neg (by simp only [decide_eq_true_eq]; omega), List.filter_nil, List.append_nil]
        · exact hout
theorem few_cod {m c s : Int} {k v b : List UInt8} {n1 n2 n : Nat} {l : List (Int × Int)} (h : codF m c s n1 n2 n l = 0) (hs : subsF l = 0) :
    codF m c s n1 n2 n (fewL l) = 0 ∧ codV m c s false k v b n1 n2 n (fewL l) = codV m c s false k v b n1 n2 n l ∧ (fewL l).length ≤ l.length := by
  obtain ⟨h1, h2, h3⟩ := codF_zero h
  obtain ⟨_, _, hn⟩ := modeF_zero h2
  have hf : fewL l = fewP l := by unfold fewL; rw [if_neg (by omega)]
  rw [hf]
  obtain ⟨q1, q2, q3⟩ := few_law h3 ⟨by omega, by omega⟩
  have hc : codF m c s n1 n2 n (fewP l) = 0 := by unfold codF; rw [if_neg (by omega), if_neg (by omega), q1]
  refine ⟨hc, ?_, q3⟩
  unfold codV
  rw [if_neg (by omega), if_neg (by omega)]
  unfold codK
  rw [← codK_filter m c.toNat s.toNat false k v b (partsP (fewP l) (n : Int)), q2, codK_filter]

set_option maxRecDepth 100000 in
set_option maxHeartbeats 4000000 in
theorem fewTouch_any {A1 A2 A3 A4 : Option Addr} {c1 c2 c3 c4 n1 n2 n n4 : Nat} {k v b : List UInt8} {l : List (Int × Int)} {m c s : Int} {w : World} (h1 : At w 1 e8 A1 n1 c1 k) (h2 : At w 1 e8 A2 n2 c2 v) (h3 : At w 1 e8 A3 n c3 b) (h4 : At w 2 e2 A4 n4 c4 l) :
    Calls Try.prog 14 #[schV m c s, .slice A1 n1 c1, .slice A2 n2 c2, .slice A3 n c3, .slice A4 n4 c4] w fun e w' => e = .returned (.bool true) ∧ Ext w w' := by
  have hcl : ∀ W, Ext (w.alloc (.cells #[.int .i64 m, .int .i64 c, .int .i64 s] 57)) W →
      W.cell? ⟨w.heap.size, 0, none⟩ = some (.int .i64 m) ∧ W.cell? ⟨w.heap.size, 1, none⟩ = some (.int .i64 c) ∧ W.cell? ⟨w.heap.size, 2, none⟩ = some (.int .i64 s) ∧ w.heap.size < W.heap.size := fun W hW => by
    have b1 := (Blk.new w 57 #[.int .i64 m, .int .i64 c, .int .i64 s]).ext hW
    exact ⟨b1.cell 0, b1.cell 1, b1.cell 2, b1.lt⟩
  have HCL := hide hcl
  have HX := hide (Ext.alloc w (.cells #[.int .i64 m, .int .i64 c, .int .i64 s] 57))
  have KF := hide (fun (W : World) (hx : Ext w W) => keyFewer_any (h4.ext hx))
  have hlen := h4.len
  by_cases hs : subsF l = 0
  rotate_left
  · have hfl : fewL l = [] := by unfold fewL; rw [if_pos hs]
    rw [hfl] at KF
    have hb : (subsF l != 0) = true := by rw [bne_iff_ne]; exact hs
    generalize subsF l = r at *
    clear hcl hs hfl h1 h2 h3 h4 hlen
    go_enter Try.func14, Try.ntmps14
    go_wp2_with fail
    refine (KF.out _ HX.out).mono ?_
    rintro e w1 ⟨A5, q5, d5, rfl, a5, e5⟩
    obtain rfl : q5 = 0 := a5.len.symm
    have E1 := hide (Ext.trans HX.out e5)
    clear a5 e5
    go_wp2_with fail
    refine (awake_any _).mono ?_
    rintro e w5 ⟨rfl, e9⟩
    have E5 := hide (Ext.trans E1.out e9)
    clear e9
    go_wp2
    go_ret
    exact ⟨rfl, E5.out⟩
  have HZ := hide hs
  have KP := hide (fun (W : World) (hx : Ext w W) => keyProtect_any (m := m) (c := c) (s := s) (h1.ext hx) (h2.ext hx) (h3.ext hx) (h4.ext hx))
  have KQ := hide (fun (W : World) (hx : Ext w W) (A : Option Addr) (q d : Nat) (ha : At W 2 e2 A q d (fewL l)) => keyProtect_any (m := m) (c := c) (s := s) (h1.ext hx) (h2.ext hx) (h3.ext hx) ha)
  by_cases hF : codF m c s n1 n2 n l = 0
  rotate_left
  · have hb : (codF m c s n1 n2 n l != 0) = true := by rw [bne_iff_ne]; exact hF
    rw [hs] at KF
    generalize codF m c s n1 n2 n l = F at *
    generalize codF m c s n1 n2 n (fewL l) = G at *
    clear hcl hs h1 h2 h3 h4 hlen hF
    go_enter Try.func14, Try.ntmps14
    go_wp2_with fail
    refine (KF.out _ HX.out).mono ?_
    rintro e w1 ⟨A5, q5, d5, rfl, a5, e5⟩
    have E1 := hide e5
    have X1 := hide a5
    obtain ⟨k0, k1, k2, z1⟩ := HCL.out _ E1.out
    clear a5 e5
    go_wp2_with fail
    refine (KP.out _ (Ext.trans HX.out E1.out)).mono ?_
    rintro e w2 ⟨A6, q6, d6, rfl, a6, e6⟩
    have E2 := hide (Ext.trans E1.out e6)
    have Y1 := hide (X1.out.ext e6)
    clear a6 e6 k0 k1 k2 z1 X1 E1
    obtain ⟨k0, k1, k2, z2⟩ := HCL.out _ E2.out
    go_wp2_with fail
    refine (KQ.out _ (Ext.trans HX.out E2.out) _ _ _ Y1.out).mono ?_
    rintro e w3 ⟨A7, q7, d7, rfl, a7, e7⟩
    have E3 := hide (Ext.trans HX.out (Ext.trans E2.out e7))
    clear a7 e7 k0 k1 k2 z2 Y1 E2
    go_wp2_with fail
    refine (awake_any _).mono ?_
    rintro e w5 ⟨rfl, e9⟩
    have E5 := hide (Ext.trans E3.out e9)
    clear e9
    go_wp2
    go_ret
    exact ⟨rfl, E5.out⟩
  obtain ⟨q1, q2, q3⟩ := few_cod (k := k) (v := v) (b := b) hF hs
  have hfn : ∀ (A : Option Addr) (W : World) (q d : Nat), At W 2 e2 A q d (fewL l) → q ≤ n4 := fun A W q d ha => by have := ha.len; omega
  have HFN := hide hfn
  rw [q1] at KQ
  rw [q2] at KQ
  rw [hF] at KP
  rw [hs] at KF
  generalize codV m c s false k v b n1 n2 n l = V at *
  clear hcl hs h1 h2 h3 h4 hlen hF q1 q2 q3 hfn
  go_enter Try.func14, Try.ntmps14
  go_wp2_with fail
  refine (KF.out _ HX.out).mono ?_
  rintro e w1 ⟨A5, q5, d5, rfl, a5, e5⟩
  have hq5 := HFN.out _ _ _ _ a5
  have E1 := hide e5
  have X1 := hide a5
  obtain ⟨k0, k1, k2, z1⟩ := HCL.out _ E1.out
  clear a5 e5
  go_wp2_with fail
  refine (KP.out _ (Ext.trans HX.out E1.out)).mono ?_
  rintro e w2 ⟨A6, q6, d6, rfl, a6, e6⟩
  have E2 := hide (Ext.trans E1.out e6)
  have Y1 := hide (X1.out.ext e6)
  have X2 := hide a6
  clear a6 e6 k0 k1 k2 z1 X1 E1
  obtain ⟨k0, k1, k2, z2⟩ := HCL.out _ E2.out
  go_wp2_with fail
  refine (KQ.out _ (Ext.trans HX.out E2.out) _ _ _ Y1.out).mono ?_
  rintro e w3 ⟨A7, q7, d7, rfl, a7, e7⟩
  have E3 := hide (Ext.trans HX.out (Ext.trans E2.out e7))
  have Y2 := hide (X2.out.ext e7)
  have X3 := hide a7
  clear a7 e7 k0 k1 k2 z2 Y1 E2 X2
  go_wp2_with fail
  refine (bytesEq_true Y2.out X3.out rfl).mono ?_
  rintro e w' ⟨rfl, rfl⟩
  have hq6 : (q5 : Int) ≤ (n4 : Int) := by omega
  go_wp2_with fail
  refine (awake_any _).mono ?_
  rintro e w5 ⟨rfl, e9⟩
  have E5 := hide (Ext.trans E3.out e9)
  clear e9
  go_wp2
  go_ret
  exact ⟨rfl, E5.out⟩

set_option maxRecDepth 100000 in
theorem keyFewerTouchTheSame_lifted (os : Os) (started : os.Started) (H : Type) (enc : TypeId × Value → H) :
    ReturnsInHanded {} Try.checked os 14 .any (Rows.keyFewerTouchTheSameSpec.pre6 enc Try.prog Try.f14 Rows.keyFewerTouchTheSameRow.domain false) (Rows.keyFewerTouchTheSameSpec.post enc Try.prog Try.f14 false true false false) := by
  refine returnsInHanded_of_change_sized (C := Try.checked) Try.own started (by kernel_rfl) Try.func14
    (ChangeSpec.witness6 (enc := enc) (C := Try.checked) false ⟨#[], #[.agg #[.int .i64 1, .int .i64 0, .int .i64 0], .slice none 0 0, .slice none 0 0, .slice none 0 0, .slice none 0 0], []⟩ 8 (by kernel_rfl) (by kernel_rfl) (by kernel_rfl) (by kernel_rfl)) ?_
  intro W base args ds gs before hval0 hW _ _ _
  have hval : ∀ (j : Nat) t v, Try.f14.params[j]? = some t → args[j]? = some v → Value.okWide Try.prog W .any base t v := hval0
  have hW' := hW
  obtain ⟨p, q, hA0, hV, rfl, _, _⟩ := hW
  have hA : DataW.TrodAll enc Try.prog W 0 (fun _ => true) true Try.f14.params.toList args.toList ds p := hA0
  rw [Try.params14] at hA hval
  obtain ⟨v0, v1, v2, v3, v4, d0, d1, d2, d3, d4, p0, p1, p2, p3, p4, rfl, rfl, rfl, h0, h1, h2, h3, h4⟩ := trodAll_five hA
  obtain ⟨m0, c0, s0, rfl, _, _, _⟩ := open_scheme (hval 0 57 v0 rfl rfl) h0
  obtain ⟨A1, n1, c1, l1, rfl, hAt1, _⟩ := open_bytes (hval 1 22 v1 rfl rfl) h1
  obtain ⟨A2, n2, c2, l2, rfl, hAt2, _⟩ := open_bytes (hval 2 22 v2 rfl rfl) h2
  obtain ⟨A3, n3, c3, l3, rfl, hAt3, _⟩ := open_bytes (hval 3 22 v3 rfl rfl) h3
  obtain ⟨A4, n4, k4, l4, rfl, hAt4, _, _⟩ := open_subs (hval 4 44 v4 rfl rfl) h4
  refine (fewTouch_any hAt1 hAt2 hAt3 hAt4).mono fun e W' ⟨he, hE⟩ => ?_
  subst he
  exact ⟨_, rfl, law_post Try.laidOut Try.underlying4 hW' rfl rfl rfl (by kernel_rfl) hE⟩
theorem keyFewerTouchTheSame_closed : joinedFacts Try.prog 14 Try.f14 Rows.keyFewerTouchTheSameSpec Rows.keyFewerTouchTheSameRow = true :=
  joined_of Try.laidOut Try.mapsRowed Try.plainKeys Try.stopsHeard Try.stopsNone Try.knobsNone Try.mayEnter Try.makeCut Try.liftsFinal rfl rfl rfl (by as_aux_lemma => kernel_rfl)
    (by as_aux_lemma => kernel_rfl) (by as_aux_lemma => kernel_rfl) (by as_aux_lemma => kernel_rfl) (by as_aux_lemma => kernel_rfl) (by as_aux_lemma => kernel_rfl) (by as_aux_lemma => kernel_rfl) (by as_aux_lemma => kernel_rfl) (by as_aux_lemma => kernel_rfl) (by as_aux_lemma => kernel_rfl) (by as_aux_lemma => kernel_rfl)
theorem keyFewerTouchTheSame_holds : Rows.KeyFewerTouchTheSameSaid :=
  OpenClaim.holds_of_wide 14 Try.f14 rfl rfl rfl rfl rfl rfl rfl ⟨rfl, rfl, rfl, rfl, rfl⟩ rfl rfl rfl rfl rfl (by as_aux_lemma => kernel_rfl) Try.func14 keyFewerTouchTheSame_closed
    (of_decide_eq_true (by kernel_rfl)) (by unfold Func.isWrapper; first | (rw [if_pos (by decide +kernel)]; kernel_rfl) | (rw [if_neg (by decide +kernel)]; exact ⟨rfl, rfl⟩))
    (fun os started H enc _ => keyFewerTouchTheSame_lifted os started H enc)
#print axioms keyFewerTouchTheSame_holds
end Go.Proofs.Ytifmgngmkajahaa
