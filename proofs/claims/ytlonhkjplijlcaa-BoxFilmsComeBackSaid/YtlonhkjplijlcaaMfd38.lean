/- Several texts in one: Plain: a film and its bytes are read as they were written. Conditions as stated; Walk of the law BoxFilmsComeBack. Conditions as stated. -/
import Derived.Test.YtlonhkjplijlcaaMfd37
import Derived.Test.YtlonhkjplijlcaaMfd06
import Derived.Test.YtlonhkjplijlcaaMfd34
import Derived.Test.YtlonhkjplijlcaaMfd29
namespace Go.Proofs.Ytlonhkjplijlcaa
theorem tab_same {l : List Smp} {ch pl ql : List Int} (h : pl.length = ql.length) : (tabBy (cmpT l ch pl)).length = (tabBy (cmpT l ch ql)).length := by
  unfold tabBy
  simp only [List.length_append, liB_len]
  rw [show (cmpT l ch pl).places.length = (cmpT l ch ql).places.length from h]
  rfl
theorem trk_same {x : TrkT} {ch : Nat} {pl ql : List Int} (h : pl.length = ql.length) : sizeT (trkB x ch pl) = sizeT (trkB x ch ql) := by
  unfold trkB
  rw [sizeT, sizeT]
  simp only [sizeL, leaf_size]
  rw [tab_same h]
theorem kids_same {sc : Int} {T : List TrkT} {ch : Nat} {P Q : List (List Int)} (h : ∀ j, (P.getD j []).length = (Q.getD j []).length) : ∀ i, sizeL (kidsB sc T ch P i) = sizeL (kidsB sc T ch Q i)
  | 0 => rfl
  | i + 1 => by rw [kidsB, kidsB, sizeL_app, sizeL_app, kids_same h i, sizeL, sizeL, trk_same (h i)]; rfl
theorem film_eq (sc : Int) (T : List TrkT) (ch : Nat) (P : List (List Int)) : sizeT (filmB sc T ch P) = 8 + sizeL (kidsB sc T ch P T.length) := by
  unfold filmB
  rw [sizeT, if_neg (by omega)]
  simp only [List.length_nil, Nat.add_zero]
theorem map_mapR {α β : Type} {n : Nat} {f : Nat → α} {g : α → β} {l : List β} (d : β) (hl : l.length = n) (h : ∀ i, i < n → g (f i) = l.getD i d) : (mapR n f).map g = l := by
  apply List.ext_getElem (by rw [List.length_map, mapR_len, hl])
  intro i h1 h2
  have h3 := h i (by omega)
  rw [List.getElem_map]
  simp only [mapR, List.getElem_map, List.getElem_range]
  rw [h3, List.getD_eq_getElem?_getD, List.getElem?_eq_getElem h2]
  rfl
theorem wfF_zero {sc : Int} {T : List TrkT} {D : List (List UInt8)} {ch : Int} (h : wfF sc T D ch = 0) : filF sc T = 0 ∧ (1 ≤ ch ∧ ch ≤ 1000) ∧ datF T D = 0 ∧ headN sc T ch.toNat (layF T D ch.toNat 0).pl + (layF T D ch.toNat 0).out.length ≤ 1000000 := by
  unfold wfF at h
  by_cases h1 : filF sc T ≠ 0
  · rw [if_pos h1] at h; exact absurd h h1
  rw [if_neg h1] at h
  by_cases h2 : ch < 1 ∨ 1000 < ch
  · rw [if_pos h2] at h; omega
  rw [if_neg h2] at h
  by_cases h3 : datF T D ≠ 0
  · rw [if_pos h3] at h; exact absurd h h3
  rw [if_neg h3] at h
  by_cases h4 : 1000000 < headN sc T ch.toNat (layF T D ch.toNat 0).pl + (layF T D ch.toNat 0).out.length
  · rw [if_pos h4] at h; omega
  exact ⟨by omega, by omega, by omega, by omega⟩
theorem trkOf_trO {x : TrkT} {ch : Nat} {pl : List Int} (h : cmpF x.smp (ckL x.smp.length ch) pl = 0) : trkOf (trO x ch pl) = x := by
  show (⟨x.name, x.scale, exS (cmpT x.smp (ckL x.smp.length ch) pl), x.ed⟩ : TrkT) = x
  rw [cmp_exS h]
set_option maxRecDepth 100000 in
theorem film_back {sc : Int} {T : List TrkT} {D : List (List UInt8)} {ch : Int} (h0 : wfF sc T D ch = 0) : rfmF (wfB sc T D ch) = ⟨sc, T, D, 0, 0⟩ := by
  obtain ⟨hfil, hch, hdat, hsz⟩ := wfF_zero h0
  have hB : wfB sc T D ch = bytL (wfL sc T D ch.toNat) := by unfold wfB; rw [if_pos h0]
  rw [hB]
  have c1 : 1 ≤ ch.toNat := by omega
  have c2 : ch.toNat ≤ 1000 := by omega
  generalize ch.toNat = c at *
  clear h0 hB hch
  have hok := filF_ok hfil
  have hr := hok.r
  have h8 := hok.few
  have hdz := datF_zero hdat
  obtain ⟨a, ha⟩ : ∃ a, a = headN sc T c (layF T D c 0).pl := ⟨_, rfl⟩
  have hlay : lay2 sc T D c = layF T D c a := by unfold lay2; rw [ha]
  have hsame := layF_same (T := T) (D := D) (ch := c) (a := a) (b := 0)
  have hfs : 8 + sizeL (kidsB sc T c (layF T D c a).pl T.length) + 8 = a := by
    rw [kids_same hsame.2, ha]
    unfold headN
    rw [film_eq]
  have hL : wfL sc T D c = [filmB sc T c (layF T D c a).pl, dataB (layF T D c a).out] := by unfold wfL; rw [hlay]
  have hbl := bytL_len _ _ _ _ (fau_both sc c (layF T D c a).pl (layF T D c a).out h8)
  rw [both_size, film_eq, ← hL] at hbl
  obtain ⟨b, hb⟩ : ∃ b, b = bytL (wfL sc T D c) := ⟨_, rfl⟩
  rw [← hb] at hbl ⊢
  rw [hL] at hb
  have ho := congrArg List.length hsame.1
  rw [← ha] at hsz
  have hfk := fau_kids sc T c (layF T D c a).pl (dep := 1) (c := 1) (by omega) T.length (by omega)
  obtain ⟨ks, p1, p2, p3, p4⟩ := two_back hb (by omega) hfk (by omega)
  rw [hfs] at p1 p3 p4
  have hCh : ∀ i, i < T.length → ChLie b (D.getD i []) (T.getD i default).smp c ((layF T D c a).pl.getD i []) a b.length := fun i hi => by
    have hly := lyF (D := D) (a := a) c1 (fun i hi => (hr.smp i hi).2) hi
    refine ⟨hly.len, (hdz.2 i hi).symm, by omega, fun j hj => ?_⟩
    obtain ⟨o, q1, q2⟩ := hly.at_ j hj
    have q3 := lies_in p3 q2
    have hjl := (ckN_lt (n := (T.getD i default).smp.length) (k := j) c1).1 hj
    have m1 := szN_mono (T.getD i default).smp (j := j * c) (k := min (j * c + c) (T.getD i default).smp.length) (by omega)
    have m2 := szN_le (T.getD i default).smp (min (j * c + c) (T.getD i default).smp.length)
    have hl := pcB_len (b := D.getD i []) m1 (by rw [← hdz.2 i hi]; exact m2)
    have q4 := q2.2
    have q5 : (cdL T D c i j).length = _ := hl
    exact ⟨a + o, q1, by omega, by omega, q3⟩
  have ht := fun i hi => trF_ok (hok.tracks i hi)
  have hcF : ∀ i, i < T.length → cmpF (T.getD i default).smp (ckL (T.getD i default).smp.length c) ((layF T D c a).pl.getD i []) = 0 := fun i hi => (hCh i hi).cmpF (ht i hi).2.2.1 c1 c2
  have hfR := fil_back (n := .mk kFilm 0 0 8 (8 + sizeL (kidsB sc T c (layF T D c a).pl T.length)) ks) p2 hok.scale (fun i hi => ⟨(ht i hi).2.1, (ht i hi).2.2.2.2, hcF i hi, by
    have h5 := (hr.smp i hi).2
    have h6 := ckN_le (n := (T.getD i default).smp.length) c1
    have h7 := (hCh i hi).len
    have := tabBy_le (l := (T.getD i default).smp) (ch := ckL (T.getD i default).smp.length c) (pl := (layF T D c a).pl.getD i []) h5 (by rw [ckL_len]; omega) (by omega)
    unfold tbO
    omega⟩)
  have hTop := top_back (x := .mk kData 0 (8 + sizeL (kidsB sc T c (layF T D c a).pl T.length)) a b.length []) rfl rfl hfR
  have r1 : firstF (fun i => expF ((mapR T.length fun i => trO (T.getD i default) c ((layF T D c a).pl.getD i [])).getD i default).tab) (mapR T.length fun i => trO (T.getD i default) c ((layF T D c a).pl.getD i [])).length = 0 := firstF_zero (fun i hi => by
    rw [mapR_len] at hi
    show expF ((mapR T.length fun i => trO (T.getD i default) c ((layF T D c a).pl.getD i [])).getD i default).tab = 0
    rw [mapR_getD _ _ hi]
    exact (hCh i hi).expF (ht i hi).2.2.1 c1 c2)
  have r2 : (mapR T.length fun i => trO (T.getD i default) c ((layF T D c a).pl.getD i [])).map trkOf = T := map_mapR default rfl (fun i hi => trkOf_trO (hcF i hi))
  have r4 : (mapR T.length fun i => trO (T.getD i default) c ((layF T D c a).pl.getD i [])).map (fun t => spB b (spS t.tab)) = D := map_mapR [] hdz.1 (fun i hi => (hCh i hi).all (ht i hi).2.2.1 c1 c2)
  have r3 : ((mapR T.length fun i => trO (T.getD i default) c ((layF T D c a).pl.getD i [])).all fun t => (spS t.tab).all (okSp [.mk kFilm 0 0 8 (8 + sizeL (kidsB sc T c (layF T D c a).pl T.length)) ks, .mk kData 0 (8 + sizeL (kidsB sc T c (layF T D c a).pl T.length)) a b.length []])) = true := by
    rw [List.all_eq_true]
    intro t htm
    unfold mapR at htm
    obtain ⟨i, hi, rfl⟩ := List.mem_map.1 htm
    have hi := List.mem_range.1 hi
    rw [List.all_eq_true]
    intro x hx
    have h1 := (hCh i hi).in_ (ht i hi).2.2.1 c1 c2 x hx
    unfold okSp inD
    have h2 : decide ((NodeT.mk kData 0 (8 + sizeL (kidsB sc T c (layF T D c a).pl T.length)) a b.length []).kind = kData ∧ ((NodeT.mk kData 0 (8 + sizeL (kidsB sc T c (layF T D c a).pl T.length)) a b.length []).dat : Int) ≤ x.1 ∧ x.1 + x.2 ≤ ((NodeT.mk kData 0 (8 + sizeL (kidsB sc T c (layF T D c a).pl T.length)) a b.length []).en : Int)) = true := decide_eq_true ⟨rfl, h1.1, h1.2⟩
    simp only [List.any_cons, h2, Bool.true_or, Bool.or_true]
  unfold rfmF
  rw [p1]
  simp only [hTop]
  rw [if_neg (fun hc => hc r1), r2, if_neg (fun hc => hc hfil), if_pos r3, r4]
end Go.Proofs.Ytlonhkjplijlcaa
namespace Go.Proofs.Ytlonhkjplijlcaa
open Go.ChangeShapes Go.WideShapes Go.ChangeAt Go.RowKit
set_option linter.unusedVariables false in
set_option maxRecDepth 100000 in
set_option maxHeartbeats 8000000 in
theorem filmBack_of {sc : Int} {A : Option Addr} {n c : Nat} {hs : List TrkH} {T : List TrkT} {B : Option Addr} {m d : Nat} {es : List (Option Addr × Nat × Nat)} {D : List (List UInt8)} {ch : Int} {w : World} (h : TksAt w A n c hs T) (hd : DtsAt w B m d es D)
    (hW : ∀ W, Ext w W → Calls Try.prog 6 #[.agg #[.int .i64 sc, .slice A n c], .slice B m d, .int .i64 ch] W fun e w' => ∃ N k c, e = .returned (.tuple #[.slice N k c, .int .i64 (wfF sc T D ch)]) ∧ At w' 1 e8 N k c (wfB sc T D ch) ∧ Ext W w')
    (hR : ∀ (W : World) (N : Option Addr) (k q : Nat) (b : List UInt8), At W 1 e8 N k q b → Calls Try.prog 10 #[.slice N k q] W (RfG W (rfmF b))) :
    Calls Try.prog 5 #[.agg #[.int .i64 sc, .slice A n c], .slice B m d, .int .i64 ch] w fun e w' => e = .returned (.bool true) ∧ Ext w w' := by
  have HAW := hide (fun (W : World) => awake_any W)
  have X0 := hide (Blk.new w 24 #[.int .i64 sc, .slice A n c])
  have E0 := hide (Ext.alloc w (.cells #[.int .i64 sc, .slice A n c] 24))
  have HW1 := hide hW
  have HR := hide hR
  have H := hide h
  have HD := hide hd
  have hB : wfF sc T D ch ≠ 0 → wfB sc T D ch = [] := fun hz => by unfold wfB; rw [if_neg hz]
  have hF : wfF sc T D ch = 0 → rfmF (wfB sc T D ch) = ⟨sc, T, D, 0, 0⟩ := film_back
  clear h hd hW hR
  generalize wfB sc T D ch = wb at *
  generalize wfF sc T D ch = wf at *
  go_enter Try.func5, Try.ntmps5
  go_upto_region 1 with (fail)
  refine gen_wpC fun w0 h0 => ?_
  rw [← h0] at X0 E0
  obtain ⟨fb, hfb⟩ : ∃ fb, fb = w.heap.size := ⟨_, rfl⟩
  rw [← hfb] at X0 ⊢
  clear h0 hfb
  have x0 : w0.cell? ⟨fb, 0, none⟩ = some (.int .i64 sc) := X0.out.cell 0
  have x1 : w0.cell? ⟨fb, 1, none⟩ = some (.slice A n c) := X0.out.cell 1
  go_wp2_with fail
  with_reducible refine (HW1.out _ E0.out).mono ?_
  rintro e w1 ⟨N1, k1, c1, rfl, q1, e1⟩
  have E1 := hide (Ext.trans E0.out e1)
  have X1 := hide (X0.out.ext e1)
  have hk := q1.len
  have Q1 := hide q1
  clear q1 e1 x0 x1 HW1 X0 E0
  by_cases hz : wf = 0
  · subst hz
    have HF := hide (hF rfl)
    clear hB hF hk
    have HR1 := hide (HR.out w1 _ _ _ _ Q1.out)
    rw [HF.out] at HR1
    clear HR HF Q1
    go_wp2_with fail
    with_reducible refine HR1.out.mono ?_
    rintro e w2 ⟨e2, A2, n2, c2, hs2, B2, m2, d2, es2, rfl, t2, u2⟩
    dsimp only at t2 u2
    have E2 := hide (Ext.trans E1.out e2)
    have X2 := hide (X1.out.ext e2)
    have P2 := hide t2
    have Q2 := hide u2
    clear t2 u2 e2 HR1 E1 X1
    go_upto_region 5 with (fail)
    refine gen_wpC fun w4 h4 => ?_
    obtain ⟨gy, hgy⟩ : ∃ gy, gy = w2.heap.size := ⟨_, rfl⟩
    rw [← hgy]
    have EY : Hid (Ext w2 w4) := hide (by rw [h4]; exact Ext.alloc _ _)
    have E4 := hide (Ext.trans E2.out EY.out)
    have X4 := hide (X2.out.ext EY.out)
    have Y4 : Hid (Blk w4 gy 24 #[.int .i64 sc, .slice A2 n2 c2]) := hide (by rw [h4, hgy]; exact Blk.new _ _ _)
    have HS := hide (sameFilm_any (sc := sc) (H.out.ext E4.out) (P2.out.ext EY.out))
    have HDD := hide (fun (W : World) (hW : Ext w4 W) => sameData_any ((HD.out.ext E4.out).ext hW) ((Q2.out.ext EY.out).ext hW))
    have x0 : w4.cell? ⟨fb, 0, none⟩ = some (.int .i64 sc) := X4.out.cell 0
    have x1 : w4.cell? ⟨fb, 1, none⟩ = some (.slice A n c) := X4.out.cell 1
    have y0 : w4.cell? ⟨gy, 0, none⟩ = some (.int .i64 sc) := Y4.out.cell 0
    have y1 : w4.cell? ⟨gy, 1, none⟩ = some (.slice A2 n2 c2) := Y4.out.cell 1
    clear h4 hgy EY X2 P2 Q2 H HD E2
    go_wp2_with fail
    with_reducible refine HS.out.mono ?_
    rintro e w5 ⟨rfl, e5⟩
    have E5 := hide (Ext.trans E4.out e5)
    have HD5 := hide (HDD.out _ e5)
    clear e5
    go_wp2_with fail
    with_reducible refine HD5.out.mono ?_
    rintro e w6 ⟨rfl, e6⟩
    have E6 := hide (Ext.trans E5.out e6)
    clear e6
    go_wp2_with fail
    with_reducible refine (HAW.out _).mono ?_
    rintro e w7 ⟨rfl, e7⟩
    have E7 := hide (Ext.trans E6.out e7)
    clear e7
    go_wp2_with fail
    go_ret
    exact ⟨rfl, E7.out⟩
  · rw [hB hz] at hk
    have hk : 0 = k1 := hk
    subst hk
    clear hB hF HR H HD
    go_wp2_with fail
    with_reducible refine (HAW.out _).mono ?_
    rintro e w7 ⟨rfl, e7⟩
    have E7 := hide (Ext.trans E1.out e7)
    clear e7
    go_wp2_with fail
    go_ret
    exact ⟨rfl, E7.out⟩
end Go.Proofs.Ytlonhkjplijlcaa
