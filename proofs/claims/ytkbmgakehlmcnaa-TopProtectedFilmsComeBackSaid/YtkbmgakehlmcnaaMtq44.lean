/- Walk: Expand (program). Conditions as stated. -/
import Derived.Test.YtkbmgakehlmcnaaMtq43
import Derived.Lib.MinMax
namespace Go.Proofs.Ytkbmgakehlmcnaa
open Go.RowKit
theorem ext_set {w W : World} {g i : Nat} {u : Value} (h : Ext w W) (hg : w.heap.size ≤ g) : Ext w (W.setCell ⟨g, i, none⟩ u) := tw_ext' h (Tw.set_ W g i u none) hg
theorem own_where {W : World} {base : Nat} {A : Option Addr} {n c : Nat} {l : List Smp} (h : Own W base 44 5 eSm (.slice A n c) l) (hn : 0 < n) : ∃ g, A = some ⟨g, 0, none⟩ ∧ base ≤ g ∧ g < W.heap.size := by
  have hl := h.len len_eSm
  rcases h.2 with ⟨h1, h2⟩ | ⟨g, cap, cur, hv, hb, hg, _⟩
  · omega
  · injection hv with h1 _ _
    exact ⟨g, h1, hb, (h.lt g (by rw [h1]; rfl)).2⟩
theorem spI_bd {t : Tab} (h : firstF (szEl t.sizes) t.sizes.length = 0) {p : Int} (hp : 0 ≤ p ∧ p ≤ 1000000) (s : Nat) : ∀ j : Nat, j ≤ 1000 → ∀ e ∈ spI t p s j, (0 ≤ e.1 ∧ e.1 ≤ 1000000000) ∧ (0 ≤ e.2 ∧ e.2 ≤ 100000)
  | 0, _, e, he => by simp [spI] at he
  | j + 1, hj, e, he => by
    rw [spI, List.mem_append] at he
    rcases he with he | he
    · exact spI_bd h hp s j (by omega) e he
    · rw [List.mem_singleton] at he
      subst he
      have h1 := szP_bd h s j
      have h2 := exSz_bd h (s + j)
      exact ⟨by show 0 ≤ p + _ ∧ p + _ ≤ _; omega, h2⟩
theorem spC_bd {t : Tab} (h : TabR1 t) : ∀ c : Nat, c ≤ t.places.length → ∀ e ∈ spC t c, (0 ≤ e.1 ∧ e.1 ≤ 1000000000) ∧ (0 ≤ e.2 ∧ e.2 ≤ 100000)
  | 0, _, e, he => by simp [spC] at he
  | c + 1, hc, e, he => by
    rw [spC, List.mem_append] at he
    rcases he with he | he
    · exact spC_bd h c (by omega) e he
    · have h1 := smO_bd h.chunks ((c : Int) + 1)
      exact spI_bd h.sizes (plEl_bd h.places (by omega)) _ _ (by omega) e he
theorem spS_bd {t : Tab} (h : TabR1 t) {i : Nat} (hi : i < (spS t).length) : (0 ≤ ((spS t).getD i (0, 0)).1 ∧ ((spS t).getD i (0, 0)).1 ≤ 1000000000) ∧ (0 ≤ ((spS t).getD i (0, 0)).2 ∧ ((spS t).getD i (0, 0)).2 ≤ 100000) := by
  rw [List.getD_eq_getElem?_getD, List.getElem?_eq_getElem hi]
  exact spC_bd h _ (Nat.le_refl _) _ (List.getElem_mem hi)
set_option linter.unusedVariables false in
set_option linter.unusedSimpArgs false in
set_option maxRecDepth 100000 in
set_option maxHeartbeats 16000000 in
theorem keyExpand_own {sA : Option Addr} {sn sc : Nat} {hA : Option Addr} {hn hc : Nat} {zA : Option Addr} {zn zc : Nat} {kA : Option Addr} {kn kc : Nat} {cA : Option Addr} {cn cc : Nat} {pA : Option Addr} {pn pc : Nat} {t : Tab} {w : World}
    (h : TabAt w sA sn sc hA hn hc zA zn zc kA kn kc cA cn cc pA pn pc t) (hz : TabSz sn hn zn kn cn pn) :
    Calls Try.prog 28 #[.agg #[.int .i64 t.start, .slice sA sn sc, .slice hA hn hc, .slice zA zn zc, .slice kA kn kc, .slice cA cn cc, .slice pA pn pc]] w (EgO w t) := by
  have E0 := hide (Ext.alloc w (.cells #[.int .i64 t.start, .slice sA sn sc, .slice hA hn hc, .slice zA zn zc, .slice kA kn kc, .slice cA cn cc, .slice pA pn pc] 82))
  have X0 := hide (Blk.new w 82 #[.int .i64 t.start, .slice sA sn sc, .slice hA hn hc, .slice zA zn zc, .slice kA kn kc, .slice cA cn cc, .slice pA pn pc])
  have HC := hide (checkTable_any (h.ext E0.out) rfl hz)
  by_cases hf : tabF t = 0
  case neg =>
    have HV := hide (expF_tab hf)
    have HNZ := hide hf
    have d0 : (tabF t != 0) = true := by simp [hf]
    clear h hf
    generalize tabF t = tf at *
    go_enter Try.func28, Try.ntmps28
    go_wp2_with fail
    with_reducible refine HC.out.mono ?_
    rintro e w1 ⟨rfl, e1⟩
    have E1 := hide (Ext.trans E0.out e1)
    clear e1
    go_wp2_with fail
    go_ret3
    exact ego_bad HV.out HNZ.out E1.out
  case pos =>
  have hR := tab_right hf
  have HTA := hide h
  have HRR := hide hR
  have hfw := tab_few hR
  have hex := exN_eq hR
  have hfew := hR.few
  have l1 := h.steps.len
  have l2 := h.shifts.len
  have l3 := h.sizes.len
  have l4 := h.keys.len
  have HST := hide h.steps
  have HSH := hide h.shifts
  have HZA := hide h.sizes
  have HKA := hide h.keys
  have HR1 := hide (fun (k : Nat) (hk : k < sn) => runs_ok hR.steps k (by omega))
  have HR2 := hide (fun (k : Nat) (hk : k < hn) => runs_ok hR.shifts k (by omega))
  have HV1 := hide (fun (k j : Nat) (hk : k < sn) (hj : (j : Int) < (t.steps.getD k (0, 0)).1) => (valsR_at (l := t.steps) (k := k) (j := j) (by omega) hj))
  have HV2 := hide (fun (k j : Nat) (hk : k < hn) (hj : (j : Int) < (t.shifts.getD k (0, 0)).1) => (valsR_at (l := t.shifts) (k := k) (j := j) (by omega) hj))
  have hsl := exSh_len hR
  have HTK1 := hide (fun (k : Nat) (hk : k < sn) => (valsR_take (l := t.steps) (k := k) (by omega)))
  have HTK2 := hide (fun (k : Nat) (hk : k < hn) => (valsR_take (l := t.shifts) (k := k) (by omega)))
  have HA1 : Hid ((valsR (t.steps.take sn)).length = exN t) := hide (by rw [← l1, List.take_length]; rfl)
  have HA2 : Hid ((valsR (t.shifts.take hn)).length = exN t) := hide (by rw [← l2, List.take_length]; exact hsl)
  have HNL : Hid ((valsR t.steps).length = exN t) := hide rfl
  have HNH := hide hsl
  have HTB := hide (exT_bd hR.steps)
  have HSB := hide (fun i => valsR_bd hR.steps (Int.le_refl _) i)
  have HZP : Hid (0 < exN t → 0 < zn) := hide (fun h0 => by have := sz_many hR h0; omega)
  have HKY := hide (fun (k : Nat) (hk : k < kn) => (⟨(key_at hR.keys (i := k) (by omega)).1, by have := (key_at hR.keys (i := k) (by omega)).2.1; omega⟩ : 1 ≤ t.keys.getD k 0 ∧ t.keys.getD k 0 ≤ (exN t : Int)))
  have HZI : Hid (∀ i : Nat, exSz t i = t.sizes.getD (min i (zn - 1)) 0) := hide (fun i => by unfold exSz; rw [l3])
  have HKL := hide l4
  have HNB : kA.isNone = t.nok := by
    have h1 := h.nok
    rw [Bool.eq_iff_iff, Option.isNone_iff_eq_none, h1]
  have HPLC := hide (fun (W : World) (A : Option Addr) (n c : Nat) (hW : Ext w W) (hl : At W 5 eSm A n c (exS t)) => keyPlaced_any (h.ext hW) hl hR)
  have HBG := hide (expF_big hf)
  have HOK := hide (expF_ok hf)
  have hst := hR.start
  have hstb : -1000000000000000 ≤ t.start ∧ t.start ≤ 1000000000000000 := by
    unfold noT at hst; simp only [decide_eq_false_iff_not] at hst; omega
  have HFS : Hid (exS t = mapR (exN t) (exM t (exN t) (exN t) kn)) := hide (by unfold exS; rw [l4])
  have HSPL := hide (spS_len hR)
  have HSPB := hide (fun (i : Nat) (hi : i < exN t) => (spS_bd hR (i := i) (by rw [spS_len hR]; exact hi)))
  obtain ⟨N, hN⟩ : ∃ N, exN t = N := ⟨_, rfl⟩
  rw [hN] at HA1 HA2 HNL HNH HZP HFS HSPL HKY HSPB
  have hNb : N ≤ 5000 := by omega
  have hsnb : sn ≤ 5000 ∧ hn ≤ 5000 ∧ zn ≤ 5000 ∧ kn ≤ 5000 := by omega
  have e1 := fun (W : World) => Lib.run_eql_slice_nil (P := Try.prog) W 79 3 kA kn kc 0 0 Try.underlying79
  rw [HNB] at e1
  obtain ⟨i0_, hi0, hz0, hz1, hz2⟩ := info_parts Try.info44
  rw [hf] at HC
  clear h hR hfw hex hfew l1 l2 l3 l4 hsl HNB hf hst hN
  go_enter Try.func28, Try.ntmps28
  go_wp2_with fail
  with_reducible refine HC.out.mono ?_
  rintro e w1 ⟨rfl, e1'⟩
  have E1 := hide (Ext.trans E0.out e1')
  have X1 := hide (X0.out.ext e1')
  clear e1' HC E0 X0
  have g0 : w1.cell? ⟨w.heap.size, 0, none⟩ = some (.int .i64 t.start) := X1.out.cell 0
  have g1 : w1.cell? ⟨w.heap.size, 1, none⟩ = some (.slice sA sn sc) := X1.out.cell 1
  have g2 : w1.cell? ⟨w.heap.size, 2, none⟩ = some (.slice hA hn hc) := X1.out.cell 2
  have g3 : w1.cell? ⟨w.heap.size, 3, none⟩ = some (.slice zA zn zc) := X1.out.cell 3
  have g4 : w1.cell? ⟨w.heap.size, 4, none⟩ = some (.slice kA kn kc) := X1.out.cell 4
  have g5 : w1.cell? ⟨w.heap.size, 5, none⟩ = some (.slice cA cn cc) := X1.out.cell 5
  have g6 : w1.cell? ⟨w.heap.size, 6, none⟩ = some (.slice pA pn pc) := X1.out.cell 6
  have hw1 : w.heap.size < w1.heap.size := cell_lt g0
  go_wp2_with fail
  go_loopw [6, 7, 29] (fun r6 r7 rr wr => ∃ r : Nat, r ≤ sn ∧ rr = .int .i64 r ∧ r7 = .int .i64 (exT t (valsR (t.steps.take r)).length) ∧ Hid (Own wr w1.heap.size 44 5 eSm r6 (mapR (valsR (t.steps.take r)).length (exM t 0 0 0))) ∧ Hid (Ext w1 wr)) (fun _ _ rr _ => sn - (intOf rr).toNat)
  case atStart => exact ⟨0, by omega, rfl, rfl, hide (Own.nil _ _ _ _ _), hide (Ext.refl _)⟩
  case round =>
    obtain ⟨r, hr, rfl, rfl, HO, HX⟩ := hrel
    obtain ⟨wo, hwo⟩ : ∃ wo, wo = wr := ⟨_, rfl⟩
    subst hwo
    by_cases hlt : r < sn
    · obtain ⟨b, off, rfl, _⟩ := HST.out.addr (by omega)
      obtain ⟨a0, a1⟩ := ((HST.out.ext E1.out).ext HX.out).pair hlt
      obtain ⟨hx0, hx1, hy0, hy1⟩ := HR1.out r hlt
      have HVJ := hide (fun j hj => HV1.out r j hlt hj)
      have HTJ := hide (HTK1.out r hlt)
      generalize (t.steps.getD r (0, 0)).1 = x at *
      generalize (t.steps.getD r (0, 0)).2 = y at *
      obtain ⟨m, rfl⟩ : ∃ m : Nat, x = (m : Int) := ⟨x.toNat, by omega⟩
      have HTL : Hid ((valsR (t.steps.take (r + 1))).length = (valsR (t.steps.take r)).length + m) := hide (by rw [HTJ.out, List.length_append, List.length_replicate, Int.toNat_natCast])
      obtain ⟨P, hP⟩ : ∃ P, P = (valsR (t.steps.take r)).length := ⟨_, rfl⟩
      rw [← hP] at HTL HO HVJ ⊢
      clear hP HTJ
      have i1 : (r : Int) < (sn : Int) := by omega
      have i0 : (0 : Int) ≤ (r : Int) := by omega
      have i8 : IntKind.i64.wrap ((r : Int) + 1) = (r : Int) + 1 := by rw [IntKind.wrap_i64]; omega
      go_upto_region 9 with (fail)
      refine gen_wpC fun w5 h5 => ?_
      obtain ⟨rb, hrb⟩ : ∃ rb, rb = wo.heap.size := ⟨_, rfl⟩
      rw [← hrb]
      have RB : Hid (Blk w5 rb 128 #[.int .i64 (m : Int), .int .i64 y]) := hide (by rw [h5, hrb]; exact Blk.new _ _ _)
      have E5 : Hid (Ext wo w5) := hide (by rw [h5]; exact Ext.alloc _ _)
      have HO5 := hide (HO.out.ext E5.out)
      have HX5 := hide (Ext.trans HX.out E5.out)
      have HNE := hide (fun (e : Value.ownBlock _ = some rb) => (by have := (HO.out.lt _ e).2; omega : False))
      clear h5 hrb a0 a1 HO
      have c0 : w5.cell? ⟨rb, 0, none⟩ = some (.int .i64 (m : Int)) := RB.out.cell 0
      go_wp2_with fail
      go_loopw [6, 7, 35] (fun r6 r7 rj wi => ∃ j : Nat, j ≤ m ∧ rj = .int .i64 j ∧ r7 = .int .i64 (exT t (P + j)) ∧ Hid (Own wi w1.heap.size 44 5 eSm r6 (mapR (P + j) (exM t 0 0 0))) ∧ Hid (Ext w1 wi) ∧ Hid (Blk wi rb 128 #[.int .i64 (m : Int), .int .i64 y]) ∧ Hid (r6.ownBlock = some rb → False)) (fun _ _ rj _ => m - (intOf rj).toNat)
      case atStart => exact ⟨0, by omega, rfl, rfl, HO5, HX5, RB, HNE⟩
      case round =>
        clear HO5 HX5 RB HNE c0 HX
        obtain ⟨j, hj, rfl, rfl, HO, HX, RB, HNE⟩ := hrel
        by_cases hjm : j < m
        · obtain ⟨hv, hvl⟩ := HVJ.out j (by omega)
          have hpl : P + j < N := by have := HNL.out; omega
          have tb := HTB.out (P + j)
          have sb := HSB.out (P + j)
          rw [hv] at sb
          have HTS : Hid (exT t (P + (j + 1)) = exT t (P + j) + y) := hide (by rw [← hv]; rfl)
          have HMS : Hid (mapR (P + (j + 1)) (exM t 0 0 0) = mapR (P + j) (exM t 0 0 0) ++ [⟨exT t (P + j), y, 0, 0, t.nok⟩]) := hide (by
            rw [show P + (j + 1) = P + j + 1 by omega, mapR_succ, exM_zero]
            unfold exSt; rw [hv])
          have hml : (mapR (P + j) (exM t 0 0 0)).length = P + j := mapR_len _ _
          have Q1 : Hid ((mapR (P + j) (exM t 0 0 0)).length + 1 ≤ maxLen) := hide (by rw [hml]; unfold maxLen; omega)
          have Q2 : Hid (((mapR (P + j) (exM t 0 0 0)).length + 1) * 40 ≤ 140737488355328) := hide (by rw [hml]; omega)
          clear hml hv hvl
          generalize exT t (P + j) = x0 at *
          generalize mapR (P + j) (exM t 0 0 0) = L0 at *
          generalize t.nok = nk at *
          have u4 := HX.out.cell g4
          have c1 : wr.cell? ⟨rb, 1, none⟩ = some (.int .i64 y) := RB.out.cell 1
          have j1 : (j : Int) < (m : Int) := by omega
          have j0 : (0 : Int) ≤ (j : Int) := by omega
          have j8 : IntKind.i64.wrap ((j : Int) + 1) = (j : Int) + 1 := by rw [IntKind.wrap_i64]; omega
          have j9 : IntKind.i64.wrap (x0 + y) = x0 + y := by rw [IntKind.wrap_i64]; omega
          have Q3 : Hid (w1.heap.size ≤ (wr.alloc (.cells #[.int .i64 x0, .int .i64 y, .int .i64 0, .int .i64 0, .bool nk] 44)).heap.size) := hide (by have := HX.out.size; rw [World.size_alloc]; omega)
          have HRL := RB.out.lt
          go_wp2_with (at_builtin; refine wpList_append_at _ rfl (.tmp 37) (.tmp 45) 42 rfl w1.heap.size 44 i0_ _ 40 Try.underlying42 hi0 hz0 hz1 hz2 rfl (by omega) len_eSm one_eSm _ _ (by rfl) (HO.out.ext (Ext.alloc _ _)) (some ⟨wr.heap.size, 0, none⟩) 1 1 [⟨x0, y, 0, 0, nk⟩] (by rfl) (At.newE wr _ _ _ rfl) Q1.out Q2.out Q3.out ?_; intro v7 wz o7 g7 _ r7; have O7 := hide o7; have G7 := hide g7; have RB7 := hide ((RB.out.alloc (.cells #[.int .i64 x0, .int .i64 y, .int .i64 0, .int .i64 0, .bool nk] 44)).grown g7 (fun e => HNE.out e.symm)); have d1 : wz.cell? ⟨rb, 1, none⟩ = some (.int .i64 y) := RB7.out.cell 1; have R7 := hide r7; clear o7 g7 r7)
          have E9 := hide (Own.below (HO.out.ext (Ext.alloc _ _)) (Ext.trans HX.out (Ext.alloc _ _)) G7.out (Nat.le_refl _))
          exact ⟨⟨j + 1, by omega, by go_num, by rw [HTS.out], hide (by rw [HMS.out]; exact O7.out), E9, RB7, hide (fun e => by
            rcases R7.out with h1 | h1
            · exact HNE.out (h1.symm.trans e)
            · rw [h1] at e; have := Option.some.inj e; rw [World.size_alloc] at this; omega)⟩, by simp [intOf]; omega⟩
        · obtain rfl : j = m := by omega
          clear hjm hj
          go_wp2_with fail
          exact ⟨⟨r + 1, by omega, by go_num, by rw [HTL.out], hide (by rw [HTL.out]; exact HO.out), HX⟩, by simp [intOf]; omega⟩
    · obtain rfl : r = sn := by omega
      rw [HA1.out] at HO ⊢
      obtain ⟨oA, oc, rfl, _⟩ := HO.out.at_ len_eSm
      have hln : (mapR N (exM t 0 0 0)).length = N := mapR_len _ _
      rw [hln] at HO ⊢
      obtain ⟨w2, hw2⟩ : ∃ w2, w2 = wo := ⟨_, rfl⟩
      subst hw2
      have g2' := HX.out.cell g2
      clear hlt hln hr
      go_wp2_with fail
      go_loopw [10, 56] (fun r10 rr wr => ∃ r : Nat, r ≤ hn ∧ rr = .int .i64 r ∧ r10 = .int .i64 ((valsR (t.shifts.take r)).length : Nat) ∧ Hid (Own wr w1.heap.size 44 5 eSm (.slice oA N oc) (mapR N (exM t (valsR (t.shifts.take r)).length 0 0))) ∧ Hid (Ext w1 wr)) (fun _ rr _ => hn - (intOf rr).toNat)
      case atStart => exact ⟨0, by omega, rfl, rfl, HO, HX⟩
      case round =>
        clear HO HX g2'
        obtain ⟨r, hr, rfl, rfl, HO, HX⟩ := hrel
        obtain ⟨wo, hwo⟩ : ∃ wo, wo = wr := ⟨_, rfl⟩
        subst hwo
        by_cases hlt : r < hn
        · obtain ⟨b, off, rfl, _⟩ := HSH.out.addr (by omega)
          obtain ⟨a0, a1⟩ := ((HSH.out.ext E1.out).ext HX.out).pair hlt
          obtain ⟨hx0, hx1, hy0, hy1⟩ := HR2.out r hlt
          have HVJ := hide (fun j hj => HV2.out r j hlt hj)
          have HTJ := hide (HTK2.out r hlt)
          generalize (t.shifts.getD r (0, 0)).1 = x at *
          generalize (t.shifts.getD r (0, 0)).2 = y at *
          obtain ⟨m, rfl⟩ : ∃ m : Nat, x = (m : Int) := ⟨x.toNat, by omega⟩
          have HTL : Hid ((valsR (t.shifts.take (r + 1))).length = (valsR (t.shifts.take r)).length + m) := hide (by rw [HTJ.out, List.length_append, List.length_replicate, Int.toNat_natCast])
          obtain ⟨P, hP⟩ : ∃ P, P = (valsR (t.shifts.take r)).length := ⟨_, rfl⟩
          rw [← hP] at HTL HO HVJ ⊢
          clear hP HTJ
          have i1 : (r : Int) < (hn : Int) := by omega
          have i0 : (0 : Int) ≤ (r : Int) := by omega
          have i8 : IntKind.i64.wrap ((r : Int) + 1) = (r : Int) + 1 := by rw [IntKind.wrap_i64]; omega
          go_upto_region 19 with (fail)
          refine gen_wpC fun w5 h5 => ?_
          obtain ⟨rb, hrb⟩ : ∃ rb, rb = wo.heap.size := ⟨_, rfl⟩
          rw [← hrb]
          have RB : Hid (Blk w5 rb 128 #[.int .i64 (m : Int), .int .i64 y]) := hide (by rw [h5, hrb]; exact Blk.new _ _ _)
          have E5 : Hid (Ext wo w5) := hide (by rw [h5]; exact Ext.alloc _ _)
          have HO5 := hide (HO.out.ext E5.out)
          have HX5 := hide (Ext.trans HX.out E5.out)
          have HNE := hide (fun (g : Nat) (e : oA = some ⟨g, 0, none⟩) => (by have := (HO.out.lt g (by rw [e]; rfl)).2; omega : g ≠ rb))
          clear h5 hrb a0 a1 HO
          have c0 : w5.cell? ⟨rb, 0, none⟩ = some (.int .i64 (m : Int)) := RB.out.cell 0
          go_wp2_with fail
          go_loopw [10, 62] (fun r10 rj wi => ∃ j : Nat, j ≤ m ∧ rj = .int .i64 j ∧ r10 = .int .i64 ((P + j : Nat) : Int) ∧ Hid (Own wi w1.heap.size 44 5 eSm (.slice oA N oc) (mapR N (exM t (P + j) 0 0))) ∧ Hid (Ext w1 wi) ∧ Hid (Blk wi rb 128 #[.int .i64 (m : Int), .int .i64 y])) (fun _ rj _ => m - (intOf rj).toNat)
          case atStart => exact ⟨0, by omega, rfl, rfl, HO5, HX5, RB⟩
          case round =>
            clear HO5 HX5 RB c0 HX
            obtain ⟨j, hj, rfl, rfl, HO, HX, RB⟩ := hrel
            by_cases hjm : j < m
            · obtain ⟨hv, hvl⟩ := HVJ.out j (by omega)
              have hpl : P + j < N := by have := HNH.out; omega
              obtain ⟨g, hg, hgb, hgl⟩ := own_where HO.out (by omega)
              have hgr := HNE.out g hg
              subst hg
              have hOS := HO.out.setF len_eSm dS (P + j) 2 hpl (by omega) { exM t (P + j) 0 0 (P + j) with shift := exSh t (P + j) } (.int .i64 y) (by rw [mapR_getD _ _ hpl]; unfold exSh; rw [hv]; rfl)
              rw [exM_shift hpl] at hOS
              have HOS := hide hOS
              have a2 := (HO.out.atS len_eSm).cellK hpl dS 2 _ rfl
              have f2 := HO.out.frozenF ((P + j) * 5 + 2)
              simp only [Nat.zero_add] at a2
              generalize ((mapR N (exM t (P + j) 0 0)).getD (P + j) dS).shift = old at *
              have RB7 := hide (RB.out.far (p := ⟨g, (P + j) * 5 + 2, none⟩) (Ne.symm hgr) (.int .i64 y))
              have E7 := hide (ext_set (i := (P + j) * 5 + 2) (u := .int .i64 y) HX.out hgb)
              have HPQ : Hid (P + j + 1 = P + (j + 1)) := hide (by omega)
              rw [HPQ.out] at HOS
              obtain ⟨q, hq⟩ : ∃ q, q = P + j := ⟨_, rfl⟩
              rw [← hq] at a2 f2 hpl HOS RB7 E7 ⊢
              have HQ := hide hq
              have c1 : wr.cell? ⟨rb, 1, none⟩ = some (.int .i64 y) := RB.out.cell 1
              have j1 : (j : Int) < (m : Int) := by omega
              have j0 : (0 : Int) ≤ (j : Int) := by omega
              have j8 : IntKind.i64.wrap ((j : Int) + 1) = (j : Int) + 1 := by rw [IntKind.wrap_i64]; omega
              have q1 : (q : Int) < (N : Int) := by omega
              have q0 : (0 : Int) ≤ (q : Int) := by omega
              have q8 : IntKind.i64.wrap ((q : Int) + 1) = (q : Int) + 1 := by rw [IntKind.wrap_i64]; omega
              clear hv hvl hOS hq
              go_wp2_with fail
              exact ⟨⟨j + 1, by omega, by go_num, int_val (by have := HQ.out; omega), HOS, E7, RB7⟩, by simp [intOf]; omega⟩
            · obtain rfl : j = m := by omega
              clear hjm hj
              go_wp2_with fail
              exact ⟨⟨r + 1, by omega, by go_num, by rw [HTL.out], hide (by rw [HTL.out]; exact HO.out), HX⟩, by simp [intOf]; omega⟩
        · obtain rfl : r = hn := by omega
          rw [HA2.out] at HO
          have g3' := HX.out.cell g3
          clear hlt hr
          go_wp2_with fail
          go_loopw [76] (fun ri wr => ∃ i : Nat, i ≤ N ∧ ri = .int .i64 i ∧ Hid (Own wr w1.heap.size 44 5 eSm (.slice oA N oc) (mapR N (exM t N i 0))) ∧ Hid (Ext w1 wr)) (fun ri _ => N - (intOf ri).toNat)
          case atStart => exact ⟨0, by omega, rfl, HO, HX⟩
          case round =>
            clear HO HX g3'
            obtain ⟨i, hi, rfl, HO, HX⟩ := hrel
            by_cases hlt : i < N
            · obtain ⟨g, hg, hgb, hgl⟩ := own_where HO.out (by omega)
              subst hg
              have hzp := HZP.out (by omega)
              have u3 := HX.out.cell g3
              obtain ⟨zb, zo, rfl, _⟩ := HZA.out.addr hzp
              obtain ⟨mq, hmq⟩ : ∃ mq, mq = min i (zn - 1) := ⟨_, rfl⟩
              have hmz : mq < zn := by omega
              have c0 := ((HZA.out.ext E1.out).ext HX.out).num hmz
              have hze := HZI.out i
              rw [← hmq] at hze
              rw [← hze] at c0
              have hOS := HO.out.setF len_eSm dS i 3 hlt (by omega) { exM t N i 0 i with size := exSz t i } (.int .i64 (exSz t i)) (by rw [mapR_getD _ _ hlt]; rfl)
              rw [exM_size hlt] at hOS
              have HOS := hide hOS
              have a3 := (HO.out.atS len_eSm).cellK hlt dS 3 _ rfl
              have f3 := HO.out.frozenF (i * 5 + 3)
              simp only [Nat.zero_add] at a3
              generalize ((mapR N (exM t N i 0)).getD i dS).size = old at *
              generalize exSz t i = y at *
              have E7 := hide (ext_set (i := i * 5 + 3) (u := .int .i64 y) HX.out hgb)
              obtain ⟨zm, hzm⟩ : ∃ zm, zm = zn - 1 := ⟨_, rfl⟩
              have j1 : IntKind.i64.wrap ((zn : Int) - 1) = (zm : Int) := by rw [IntKind.wrap_i64]; omega
              have j2 : min (i : Int) (zm : Int) = (mq : Int) := by omega
              have j3 : (mq : Int) < (zn : Int) := by omega
              have j4 : (0 : Int) ≤ (mq : Int) := by omega
              have i1 : (i : Int) < (N : Int) := by omega
              have i0 : (0 : Int) ≤ (i : Int) := by omega
              have i8 : IntKind.i64.wrap ((i : Int) + 1) = (i : Int) + 1 := by rw [IntKind.wrap_i64]; omega
              clear hOS hze hmq hzm hzp hmz
              go_wp2_with fail
              exact ⟨⟨i + 1, by omega, by go_num, HOS, E7⟩, by simp [intOf]; omega⟩
            · obtain rfl : i = N := by omega
              have g4' := HX.out.cell g4
              clear hlt hi
              go_wp2_with fail
              go_loopw [97] (fun ri wr => ∃ q : Nat, q ≤ kn ∧ ri = .int .i64 q ∧ Hid (Own wr w1.heap.size 44 5 eSm (.slice oA i oc) (mapR i (exM t i i q))) ∧ Hid (Ext w1 wr)) (fun ri _ => kn - (intOf ri).toNat)
              case atStart => exact ⟨0, by omega, rfl, HO, HX⟩
              case round =>
                clear HO HX g4'
                obtain ⟨q, hq, rfl, HO, HX⟩ := hrel
                by_cases hlt : q < kn
                · obtain ⟨hk1, hk2⟩ := HKY.out q hlt
                  obtain ⟨kb, ko, rfl, _⟩ := HKA.out.addr (by omega)
                  have c0 := ((HKA.out.ext E1.out).ext HX.out).num hlt
                  obtain ⟨mm, hmm⟩ : ∃ mm : Nat, t.keys.getD q 0 = (mm : Int) + 1 := ⟨(t.keys.getD q 0 - 1).toNat, by omega⟩
                  have hmi : mm < i := by omega
                  have hOX := exM_key (t := t) (n := i) (k := q) (m := mm) (by have := HKL.out; omega) hmm
                  rw [hmm] at c0
                  obtain ⟨g, hg, hgb, hgl⟩ := own_where HO.out (by omega)
                  subst hg
                  have hOS := HO.out.setF len_eSm dS mm 4 hmi (by omega) { exM t i i q mm with key := true } (.bool true) (by rw [mapR_getD _ _ hmi]; rfl)
                  rw [hOX] at hOS
                  have HOS := hide hOS
                  have a4 := (HO.out.atS len_eSm).cellK hmi dS 4 _ rfl
                  have f4 := HO.out.frozenF (mm * 5 + 4)
                  simp only [Nat.zero_add] at a4
                  generalize ((mapR i (exM t i i q)).getD mm dS).key = old at *
                  have E7 := hide (ext_set (i := mm * 5 + 4) (u := .bool true) HX.out hgb)
                  have j1 : IntKind.i64.wrap ((mm : Int) + 1 - 1) = (mm : Int) := by rw [IntKind.wrap_i64]; omega
                  have j2 : IntKind.i64.wrap (mm : Int) = (mm : Int) := by rw [IntKind.wrap_i64]; omega
                  have j3 : (mm : Int) < (i : Int) := by omega
                  have j4 : (0 : Int) ≤ (mm : Int) := by omega
                  have i1 : (q : Int) < (kn : Int) := by omega
                  have i0 : (0 : Int) ≤ (q : Int) := by omega
                  have i8 : IntKind.i64.wrap ((q : Int) + 1) = (q : Int) + 1 := by rw [IntKind.wrap_i64]; omega
                  clear hOS hOX hmm hk1 hk2
                  go_wp2_with fail
                  exact ⟨⟨q + 1, by omega, by go_num, HOS, E7⟩, by simp [intOf]; omega⟩
                · obtain rfl : q = kn := by omega
                  rw [← HFS.out] at HO
                  have HPW := hide (HPLC.out _ oA i oc (Ext.trans E1.out HX.out) (HO.out.atS len_eSm))
                  have X3 := hide (X1.out.ext HX.out)
                  obtain ⟨w3, hw3⟩ : ∃ w3, w3 = wr := ⟨_, rfl⟩
                  subst hw3
                  clear hlt hq g0 g1 g2 g3 g4 g5 g6
                  have g0 : w3.cell? ⟨w.heap.size, 0, none⟩ = some (.int .i64 t.start) := X3.out.cell 0
                  have g1 : w3.cell? ⟨w.heap.size, 1, none⟩ = some (.slice sA _ sc) := X3.out.cell 1
                  have g2 : w3.cell? ⟨w.heap.size, 2, none⟩ = some (.slice hA _ hc) := X3.out.cell 2
                  have g3 : w3.cell? ⟨w.heap.size, 3, none⟩ = some (.slice zA _ zc) := X3.out.cell 3
                  have g4 : w3.cell? ⟨w.heap.size, 4, none⟩ = some (.slice kA _ kc) := X3.out.cell 4
                  have g5 : w3.cell? ⟨w.heap.size, 5, none⟩ = some (.slice cA _ cc) := X3.out.cell 5
                  have g6 : w3.cell? ⟨w.heap.size, 6, none⟩ = some (.slice pA _ pc) := X3.out.cell 6
                  go_wp2_with fail
                  with_reducible refine HPW.out.mono ?_
                  rintro e w4 ⟨v, rfl, o4, e4⟩
                  obtain ⟨sA', sc', hv, _⟩ := o4.at_ len_e2
                  rw [HSPL.out] at hv
                  subst hv
                  have SO := hide o4
                  have AO := hide (HO.out.ext e4)
                  have AS1 := hide E1.out.size
                  have AS2 := hide (Ext.trans E1.out HX.out).size
                  have SA := hide (o4.atS len_e2)
                  have AL := hide ((HO.out.atS len_eSm).ext e4)
                  have E4 := hide (Ext.trans (Ext.trans E1.out HX.out) e4)
                  clear o4 e4 HPW HO HX g0 g1 g2 g3 g4 g5 g6 X3
                  have HBA := hide (fun (h1 : ∀ j, j < i → bigS ((spS t).getD j (0, 0)) = false) => HOK.out (any_none (fun j hj => h1 j (by rw [← HSPL.out]; exact hj))))
                  have HBB := hide (fun (j : Nat) (hj : j < i) (h1 : bigS ((spS t).getD j (0, 0)) = true) => HBG.out (any_some (i := j) (by rw [HSPL.out]; exact hj) h1))
                  go_wp2_with fail
                  go_loopw [112] (fun rk wr => ∃ k : Nat, k ≤ i ∧ rk = .int .i64 k ∧ Hid (∀ j, j < k → bigS ((spS t).getD j (0, 0)) = false) ∧ Hid (Ext w4 wr)) (fun rk _ => i - (intOf rk).toNat)
                  case atStart => exact ⟨0, by omega, rfl, hide (fun j hj => by omega), hide (Ext.refl _)⟩
                  case round =>
                    obtain ⟨k, hk, rfl, HA, HX⟩ := hrel
                    by_cases hlt : k < i
                    · obtain ⟨b, off, rfl, _⟩ := SA.out.addr (by omega)
                      obtain ⟨a0, a1⟩ := (SA.out.ext HX.out).pair hlt
                      obtain ⟨hb1, hb2⟩ := HSPB.out k hlt
                      have hbs : bigS ((spS t).getD k (0, 0)) = decide (1000000 < ((spS t).getD k (0, 0)).1 + ((spS t).getD k (0, 0)).2) := rfl
                      have HBK := hide (HBB.out k hlt)
                      have HSA : Hid (bigS ((spS t).getD k (0, 0)) = false → ∀ j, j < k + 1 → bigS ((spS t).getD j (0, 0)) = false) := hide (fun h0 j hj => by
                        rcases Nat.lt_succ_iff_lt_or_eq.1 hj with h | h
                        · exact HA.out j h
                        · rw [h]; exact h0)
                      generalize bigS ((spS t).getD k (0, 0)) = bg at *
                      generalize ((spS t).getD k (0, 0)).1 = x at *
                      generalize ((spS t).getD k (0, 0)).2 = y at *
                      have i1 : (k : Int) < (i : Int) := by omega
                      have i0 : (0 : Int) ≤ (k : Int) := by omega
                      have i8 : IntKind.i64.wrap ((k : Int) + 1) = (k : Int) + 1 := by rw [IntKind.wrap_i64]; omega
                      have i9 : IntKind.i64.wrap (x + y) = x + y := by rw [IntKind.wrap_i64]; omega
                      by_cases hbig : 1000000 < x + y
                      · have HE := hide (HBK.out (by rw [hbs]; exact decide_eq_true hbig))
                        clear hbs
                        go_wp2_with fail
                        go_ret3
                        exact ego_bad HE.out (by omega) (Ext.trans E4.out (Ext.trans HX.out (Ext.alloc _ _)))
                      · have HE := hide (HSA.out (by rw [hbs]; exact decide_eq_false hbig))
                        clear hbs
                        go_wp2_with fail
                        exact ⟨⟨k + 1, by omega, by go_num, HE, hide (Ext.trans HX.out (Ext.alloc _ _))⟩, by simp [intOf]; omega⟩
                    · obtain rfl : k = i := by omega
                      have HE := hide (HBA.out HA.out)
                      clear hlt hk
                      go_wp2_with fail
                      go_ret3
                      exact ego_good HE.out (AO.out.ext HX.out) (SO.out.ext HX.out) (Ext.trans E4.out HX.out) AS1.out AS2.out
end Go.Proofs.Ytkbmgakehlmcnaa
