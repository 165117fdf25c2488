/- Walk: ReadFilm (program). Conditions as stated. Printed by rflA.py. -/
import Derived.Test.YtkbmgakehlmcnaaMtq45
import Derived.Test.YtkbmgakehlmcnaaMtq47
open List (setIfInBounds_toArray set_cons_zero set_cons_succ)
namespace Go.Proofs.Ytkbmgakehlmcnaa
open Go.RowKit
theorem ext_below {w a c : World} {rb : Nat} (h : Ext w a) (hb : Below rb a c) (hr : w.heap.size ≤ rb) : Ext w c :=
  ⟨hb.os.trans h.os, hb.tape.trans h.tape, hb.output.trans h.output, Nat.le_trans h.size hb.size, fun k hk => (hb.block k (by omega)).trans (h.block k hk)⟩
theorem Try.info28 : (Try.prog.info? 28).map (fun i => (i.zero, i.size, i.bytes)) = some (some (.slice none 0 0), 1, 24) := by kernel_rfl
theorem Try.info83 : (Try.prog.info? 83).map (fun i => (i.zero, i.size, i.bytes)) = some (some (.slice none 0 0), 1, 24) := by kernel_rfl
set_option linter.unusedVariables false in
set_option linter.unusedSimpArgs false in
set_option maxRecDepth 100000 in
set_option maxHeartbeats 16000000 in
theorem keyReadFilm_any {A : Option Addr} {n c : Nat} {b : List UInt8} {w : World} (h : At w 1 e8 A n c b) :
    Calls Try.prog 9 #[.slice A n c] w (RfG w (rfmF b)) := by
  have HP := hide (fun (W : World) (hW : Ext w W) => parse_any (h.ext hW))
  have H := hide h
  have hln := h.len
  have hbd := h.bound
  have E0 := hide (Ext.alloc w (.cells #[.int .i64 0, .slice none 0 0] 24))
  have F0 := hide (Blk.new w 24 #[.int .i64 0, .slice none 0 0])
  clear h
  go_enter Try.func9, Try.ntmps9
  go_upto_region 1 with (fail)
  refine gen_wpC fun w0 h0 => ?_
  rw [← h0] at E0 F0
  obtain ⟨fb, hfb⟩ : ∃ fb, fb = w.heap.size := ⟨_, rfl⟩
  rw [← hfb] at F0 ⊢
  have f0 : w0.cell? ⟨fb, 0, none⟩ = some (.int .i64 0) := F0.out.cell 0
  have f1 : w0.cell? ⟨fb, 1, none⟩ = some (.slice none 0 0) := F0.out.cell 1
  have ff0 := F0.out.frozen 0
  have ff1 := F0.out.frozen 1
  have HFB : Hid (w.heap.size ≤ fb) := hide (by omega)
  have HFZ : Hid (fb < w0.heap.size) := hide F0.out.lt
  clear h0 hfb
  cases hpr : parseF b with
  | err a f =>
    have HE : Hid (rfmF b = rfErr (a : Int) f) := hide (by unfold rfmF; rw [hpr])
    have HF : (f != 0) = true := by
      unfold parseF at hpr
      split at hpr
      · cases hpr; rfl
      · exact parF_err hpr
    have HP0 := hide (HP.out w0 E0.out)
    rw [hpr] at HP0
    clear hpr
    go_wp2_with fail
    with_reducible refine HP0.out.mono ?_
    rintro e w1 ⟨e1, p1, _⟩
    obtain rfl := p1 _ _ rfl
    have E1 := hide e1
    have F1 := hide (F0.out.ext e1)
    have g0 : w1.cell? ⟨fb, 0, none⟩ = some (.int .i64 0) := F1.out.cell 0
    have g1 : w1.cell? ⟨fb, 1, none⟩ = some (.slice none 0 0) := F1.out.cell 1
    have gf0 := F1.out.frozen 0
    have gf1 := F1.out.frozen 1
    clear e1 p1 f0 f1 ff0 ff1
    go_wp2_with fail
    refine gen_bod fun wz hz => ?_
    have FZ : Blk wz fb 24 #[.int .i64 0, .slice none 0 0] := by rw [hz]; exact (F1.out.set_ 0 _).set_ 1 _
    have EZ : Ext w wz := by
      have h1 := tw_ext' (Ext.trans E0.out E1.out) (Tw.set_ w1 fb 0 (.int .i64 0) none) HFB.out
      rw [hz]; exact tw_ext' h1 (Tw.set_ _ fb 1 (.slice none 0 0) none) HFB.out
    have k0 : wz.cell? ⟨fb, 0, none⟩ = some (.int .i64 0) := FZ.cell 0
    have k1 : wz.cell? ⟨fb, 1, none⟩ = some (.slice none 0 0) := FZ.cell 1
    refine bodyPost_ret (v := .tuple #[.agg #[.int .i64 0, .slice none 0 0], .slice none 0 0, .int .i64 (a : Int), .int .i64 f]) (by simp [results, Try.results9, go_sem, k0, k1]) rfl ?_
    exact RfG.err HE.out EZ
  | ok l cc =>
    have HPL : Hid (b.length ≤ 1000000 ∧ parF b 0 b.length 0 0 = .ok l cc) := hide (by
      unfold parseF at hpr
      split at hpr
      · cases hpr
      · exact ⟨by omega, hpr⟩)
    have hb6 := HPL.out.1
    have HKIDS : Hid (∀ x ∈ l, x.kids.length ≤ 1000000) := hide (fun x hx => Nat.le_trans (parP_kids b _ 0 b.length 0 0 l cc HPL.out.2 (by omega) x hx) (by omega))
    have HPR := hide hpr
    have HP0 := hide (HP.out w0 E0.out)
    rw [hpr] at HP0
    clear hpr f0 f1 ff0 ff1
    go_wp2_with fail
    with_reducible refine HP0.out.mono ?_
    rintro e w1 ⟨e1, _, p1⟩
    obtain ⟨nA, nc, rfl, hnds⟩ := p1 _ _ rfl
    have E1 := hide e1
    have HND1 := hide hnds
    clear e1 p1 hnds
    go_upto_region 5 with (fail)
    refine gen_wpC fun w2 h2 => ?_
    obtain ⟨rb, hrb⟩ : ∃ rb, rb = w1.heap.size := ⟨_, rfl⟩
    rw [← hrb]
    have E2 : Hid (Ext w w2) := hide (by rw [h2]; exact Ext.trans E0.out (Ext.trans E1.out (Ext.alloc _ _)))
    have B2 : Hid (Blk w2 rb 75 (frC 0 (.slice none 0 0) (.slice none 0 0) 0)) := hide (by rw [h2, hrb]; exact Blk.new _ _ _)
    have LRB : Hid (w.heap.size < rb ∧ fb < rb) := hide (by have := E0.out.size; have := E1.out.size; have := HFZ.out; have := HFB.out; omega)
    have F2 : Hid (Blk w2 fb 24 #[.int .i64 0, .slice none 0 0]) := hide (by rw [h2]; exact (F0.out.ext E1.out).ext (Ext.alloc _ _))
    have HND2 : Hid (NdsAt w2 b (fun k => k < rb) nA l.length nc l) := hide (by
      have e2 : Ext w1 w2 := by rw [h2]; exact Ext.alloc _ _
      exact HND1.out.good (fun k hk => e2.block k hk.2) (fun k hk => by omega))
    have HRD := hide (read_any B2.out HND2.out hb6 HKIDS.out)
    clear h2 hrb
    cases htr : topR b l with
    | bad a =>
      have HE : Hid (rfmF b = rfErr (a : Int) 10) := hide (by unfold rfmF; rw [HPR.out]; simp only; rw [htr])
      rw [htr] at HRD
      clear htr
      go_wp2_with (first | ((go_at_call 27; rw [hln] at HRD; with_reducible refine HRD.out.mono ?_); rintro e w3 ⟨k3, l3, _, p3⟩; obtain ⟨rfl, sc3, tv3, bv3, b3⟩ := p3 _ rfl; have K3 := hide k3; have L3 := hide l3; have B3 := hide b3; have F3 := hide (k3 _ _ (by decide) (by decide) (by decide) _ F2.out); have E3 := hide (ext_below E2.out l3 (Nat.le_of_lt LRB.out.1)); have c3 : w3.cell? ⟨rb, 3, none⟩ = some (.int .i64 (a : Int)) := B3.out.cell 3; have g0 : w3.cell? ⟨fb, 0, none⟩ = some (.int .i64 0) := F3.out.cell 0; have g1 : w3.cell? ⟨fb, 1, none⟩ = some (.slice none 0 0) := F3.out.cell 1; have gf0 := F3.out.frozen 0; have gf1 := F3.out.frozen 1; clear k3 l3 b3 p3))
      have hne : rb ≠ fb := by have := LRB.out; omega
      have hne2 : fb ≠ rb := Ne.symm hne
      have d3 : ∀ u, (w3.drew.setCell ⟨fb, 0, none⟩ u).cell? ⟨rb, 3, none⟩ = some (.int .i64 (a : Int)) := fun u => (Blk.off (B3.out.ext (Ext.drew _)) (F3.out.ext (Ext.drew _)) (Tw.set_ _ fb 0 u none) (by decide)).cell 3
      have d4 : ∀ u v, ((w3.drew.setCell ⟨fb, 0, none⟩ u).setCell ⟨fb, 1, none⟩ v).cell? ⟨rb, 3, none⟩ = some (.int .i64 (a : Int)) := fun u v => (Blk.off (Blk.off (B3.out.ext (Ext.drew _)) (F3.out.ext (Ext.drew _)) (Tw.set_ _ fb 0 u none) (by decide)) ((F3.out.ext (Ext.drew _)).set_ 0 u) (Tw.set_ _ fb 1 v none) (by decide)).cell 3
      go_region
      go_wp2_with fail
      refine gen_bod fun wz hz => ?_
      have FZ : Blk wz fb 24 #[.int .i64 0, .slice none 0 0] := by rw [hz]; exact ((F3.out.ext (Ext.drew _)).set_ 0 _).set_ 1 _
      have EZ : Ext w wz := by
        have h1 := tw_ext' (Ext.trans E3.out (Ext.drew _)) (Tw.set_ w3.drew fb 0 (.int .i64 0) none) HFB.out
        rw [hz]; exact tw_ext' h1 (Tw.set_ _ fb 1 (.slice none 0 0) none) HFB.out
      have k0 : wz.cell? ⟨fb, 0, none⟩ = some (.int .i64 0) := FZ.cell 0
      have k1 : wz.cell? ⟨fb, 1, none⟩ = some (.slice none 0 0) := FZ.cell 1
      refine bodyPost_ret (v := .tuple #[.agg #[.int .i64 0, .slice none 0 0], .slice none 0 0, .int .i64 (a : Int), .int .i64 10]) (by simp [results, Try.results9, go_sem, k0, k1]) rfl ?_
      exact RfG.err HE.out EZ
    | ok g =>
      obtain ⟨sc, r⟩ := g
      have HRF : Hid (rfmF b = if firstF (fun i => expF (r.getD i default).tab) r.length ≠ 0 then rfErr 0 (firstF (fun i => expF (r.getD i default).tab) r.length)
        else if filF sc (r.map trkOf) ≠ 0 then rfErr 0 (filF sc (r.map trkOf))
        else if (r.all fun t => (spS t.tab).all (okSp l)) = true then ⟨sc, r.map trkOf, r.map fun t => spB b (spS t.tab), 0, 0⟩ else rfErr 0 1) := hide (by unfold rfmF; rw [HPR.out]; simp only; rw [htr])
      obtain ⟨hok, hrl⟩ := topR_okR HPL.out.1 HKIDS.out htr
      have hrl : r.length ≤ 1000000 := hrl
      have HOK : Hid (OkR b r) := hide hok
      rw [htr] at HRD
      clear htr hok
      rw [hln] at HRD
      go_wp2_with fail
      with_reducible refine HRD.out.mono ?_
      rintro e w3 ⟨k3, l3, p3, _⟩
      obtain ⟨rfl, tv, bv, hs, ts, q3⟩ := p3 _ _ rfl
      have K3 := hide k3
      have L3 := hide l3
      have R3 := hide q3
      have F3 := hide (k3 _ _ (by decide) (by decide) (by decide) _ F2.out)
      have E3 := hide (ext_below E2.out l3 (Nat.le_of_lt LRB.out.1))
      have HND3 := hide (HND2.out.good l3.block (fun _ hk => hk))
      obtain ⟨m, hm⟩ : ∃ m, r.length = m := ⟨_, rfl⟩
      have hlb : ts.length = m := by have := q3.lenB; rw [List.length_map] at this; omega
      have hlt : hs.length = m := by have := q3.len; rw [List.length_map] at this; omega
      obtain ⟨bA, bc, hbv, _⟩ := q3.tab.at_ len_eTb
      rw [hlb] at hbv
      subst hbv
      obtain ⟨tA, tc, htv, _⟩ := q3.trk.at_ len_eTk
      rw [hlt] at htv
      subst htv
      have c2 : w3.cell? ⟨rb, 2, none⟩ = some (.slice bA m bc) := q3.blk.cell 2
      rw [hm] at hrl
      have HM := hide hm
      obtain ⟨i0_, hi0, hz0, hz1, hz2⟩ := info_parts Try.info83
      have hmk := made_run (P := Try.prog) 77 83 i0_ (.slice none 0 0) Try.underlying77 hi0 hz0 (sz := 1) hz1 (bytes := 24) hz2 m (by omega) (by omega)
      clear k3 l3 q3 p3 hlb hm hlt
      go_upto_region 8 with (fail)
      refine gen_wpC fun w4 h4 => ?_
      obtain ⟨pO, hpO⟩ : ∃ pO, pO = w3.heap.size := ⟨_, rfl⟩
      have I0 : Hid (ExI w3 w4 rb sc (.slice tA m tc) (.slice bA m bc) r 0 pO m hs ts (List.replicate m dQ)) := hide (by
        have h9 := made_own (enc := eB1) (x := dQ) (t := 83) (z := #[Value.slice none 0 0]) (sz := 1) rfl rfl (by omega) w3 (rb + 1) m (by have := R3.out.blk.lt; omega) (by unfold maxLen; omega)
        rw [Nat.mul_one] at h9
        have e4 : Ext w3 w4 := by rw [h4]; exact Ext.alloc _ _
        refine ⟨by rw [mixL_zero]; exact RdN.of R3.out e4 (by omega), by rw [h4, hpO]; exact h9, fun j hj => ?_, Below.ofExt e4 (Nat.le_of_lt R3.out.blk.lt)⟩
        have e5 : (List.replicate m dQ).getD j dQ = dQ := by rw [List.getD_eq_getElem?_getD, List.getElem?_replicate, if_pos hj]; rfl
        rw [e5, if_neg (by omega)]
        exact Own.nil _ _ _ _ _)
      rw [← hpO]
      have c2 : w4.cell? ⟨rb, 2, none⟩ = some (.slice bA m bc) := I0.out.rd.blk.cell 2
      clear h4 hpO hmk
      go_wp2_with fail
      clear c2
      go_loopw [54] (fun ri wr => ∃ (i : Nat) (hs' : List TrkH) (hp : List (Option Addr × Nat × Nat)), i ≤ m ∧ ri = .int .i64 (i : Int) ∧ Hid (∀ j, j < i → expF (r.getD j default).tab = 0) ∧ Hid (ExI w3 wr rb sc (.slice tA m tc) (.slice bA m bc) r i pO m hs' ts hp)) (fun ri _ => m - (intOf ri).toNat)
      case atStart => exact ⟨0, hs, _, by omega, rfl, hide (fun j hj => by omega), I0⟩
      case round =>
        clear I0
        obtain ⟨i, hs', hp, hi, rfl, HA, HI⟩ := hrel
        obtain ⟨wl, hwl⟩ : ∃ wl, wl = wr := ⟨_, rfl⟩
        subst hwl
        by_cases hlt : i < m
        · have hlb : ts.length = m := by have := HI.out.rd.lenB; rw [List.length_map, HM.out] at this; exact this
          have hlh : hs'.length = m := by have := HI.out.rd.len; unfold mixL at this; rw [List.length_append, List.length_map, List.length_map, List.length_take, List.length_drop, HM.out] at this; omega
          obtain ⟨bO, rfl, _⟩ := HI.out.rd.tab.where_ (by omega) hlb
          obtain ⟨tO, rfl, _⟩ := HI.out.rd.trk.where_ (by omega) hlh
          obtain ⟨y, hy⟩ : ∃ y, ts.getD i default = y := ⟨_, rfl⟩
          obtain ⟨t, ht⟩ : ∃ t, (r.getD i default).tab = t := ⟨_, rfl⟩
          have hat := HI.out.rd.tab.atS len_eTb
          have tok : ∃ G, TbOk wl G y t := by
            obtain ⟨_, _, _, _, _, G, _, _, g3⟩ := HI.out.rd
            have e1 : ts[i]? = some y := by rw [← hy, List.getD_eq_getElem?_getD, List.getElem?_eq_getElem (by omega)]; rfl
            have e2 : (r.map TrR.tab)[i]? = some t := by rw [← ht, List.getElem?_map, List.getD_eq_getElem?_getD, List.getElem?_eq_getElem (by have := HM.out; omega)]; rfl
            exact ⟨G, g3 i y t e1 e2⟩
          obtain ⟨G, tok⟩ := tok
          have hfw : TbFew t := by
            rw [← ht]
            exact HOK.out.tab _ (by rw [List.getD_eq_getElem?_getD, List.getElem?_eq_getElem (by have := HM.out; omega)]; exact List.getElem_mem _)
          have hsz : TabSz y.sn y.hn y.zn y.kn y.cn y.pn := ⟨by rw [← tok.at_.steps.len]; have := hfw.s; omega, by rw [← tok.at_.shifts.len]; have := hfw.h; omega, by rw [← tok.at_.sizes.len]; have := hfw.z; omega, by rw [← tok.at_.keys.len]; have := hfw.k; omega, by rw [← tok.at_.chunks.len]; have := hfw.c; omega, by rw [← tok.at_.places.len]; have := hfw.p; omega⟩
          have HEX := hide (fun (W : World) (hW : Ext wl W) => keyExpand_own (tok.at_.ext hW) hsz)
          have hst := tok.st
          have HT := hide ht
          have HFS := hide (fun (hn : expF t ≠ 0) => (firstF_at (g := fun i => expF (r.getD i default).tab) HA.out (by rw [ht]; exact hn) (n := r.length) (by have := HM.out; omega)))
          obtain ⟨y0, ysA, ysn, ysc, yhA, yhn, yhc, yzA, yzn, yzc, ykA, ykn, ykc, ycA, ycn, ycc, ypA, ypn, ypc⟩ := y
          have hst : y0 = t.start := hst
          subst hst
          have a0 : wl.cell? ⟨bO, i * 7, none⟩ = some (.int .i64 t.start) := by simpa using hat.cellK hlt default 0 _ (by rw [hy]; rfl)
          have a1 : wl.cell? ⟨bO, i * 7 + 1, none⟩ = some (.slice ysA ysn ysc) := by simpa using hat.cellK hlt default 1 _ (by rw [hy]; rfl)
          have a2 : wl.cell? ⟨bO, i * 7 + 2, none⟩ = some (.slice yhA yhn yhc) := by simpa using hat.cellK hlt default 2 _ (by rw [hy]; rfl)
          have a3 : wl.cell? ⟨bO, i * 7 + 3, none⟩ = some (.slice yzA yzn yzc) := by simpa using hat.cellK hlt default 3 _ (by rw [hy]; rfl)
          have a4 : wl.cell? ⟨bO, i * 7 + 4, none⟩ = some (.slice ykA ykn ykc) := by simpa using hat.cellK hlt default 4 _ (by rw [hy]; rfl)
          have a5 : wl.cell? ⟨bO, i * 7 + 5, none⟩ = some (.slice ycA ycn ycc) := by simpa using hat.cellK hlt default 5 _ (by rw [hy]; rfl)
          have a6 : wl.cell? ⟨bO, i * 7 + 6, none⟩ = some (.slice ypA ypn ypc) := by simpa using hat.cellK hlt default 6 _ (by rw [hy]; rfl)
          have i1 : (i : Int) < (m : Int) := by omega
          have i0 : (0 : Int) ≤ (i : Int) := by omega
          clear hat tok hfw hsz hy ht
          go_upto_region 11 with (fail)
          refine gen_wpC fun w5 h5 => ?_
          obtain ⟨gb, hgb⟩ : ∃ gb, gb = wl.heap.size := ⟨_, rfl⟩
          rw [← hgb]
          have E5 : Hid (Ext wl w5) := hide (by rw [h5]; exact Ext.alloc _ _)
          have X5 : Hid (Blk w5 gb 82 #[.int .i64 t.start, .slice ysA ysn ysc, .slice yhA yhn yhc, .slice yzA yzn yzc, .slice ykA ykn ykc, .slice ycA ycn ycc, .slice ypA ypn ypc]) := hide (by rw [h5, hgb]; exact Blk.new _ _ _)
          clear h5 hgb a0 a1 a2 a3 a4 a5 a6
          have R5 := hide (HI.out.rd.ext E5.out)
          refine region_z (S := S11 rb gb (.slice (some ⟨tO, 0, none⟩) m tc) ⟨t.start, ysA, ysn, ysc, yhA, yhn, yhc, yzA, yzn, yzc, ykA, ykn, ykc, ycA, ycn, ycc, ypA, ypn, ypc⟩) 19 (by kernel_rfl) ?_
          refine AnyZ.takeE (i := 0) (d := 60) (oi := _) (v := ?_) rfl rfl rfl (by kernel_rfl) (by kernel_rfl) (by kernel_rfl) (by kernel_rfl) (by kernel_rfl) (by kernel_rfl) (fun _ _ _ h => h) (Or.inl ⟨by rfl, ?_⟩) (S11.of (R5.out.blk.ext (Ext.drew _)) (X5.out.ext (Ext.drew _))) ?_
          rotate_left
          · intro W hW; obtain ⟨s1, s2, s3, s4, s5, s6, s7, s8⟩ := hW; first | (go_simp; done) | (go_simp; with_reducible rfl)
          try simp only [Act.put, setIfInBounds_toArray, set_cons_zero, set_cons_succ]
          refine AnyZ.takeE (i := 1) (d := 61) (oi := _) (v := ?_) rfl rfl rfl (by kernel_rfl) (by kernel_rfl) (by kernel_rfl) (by kernel_rfl) (by kernel_rfl) (by kernel_rfl) (fun _ _ _ h => h) (Or.inl ⟨by rfl, ?_⟩) (S11.of (R5.out.blk.ext (Ext.drew _)) (X5.out.ext (Ext.drew _))) ?_
          rotate_left
          · intro W hW; obtain ⟨s1, s2, s3, s4, s5, s6, s7, s8⟩ := hW; first | (go_simp; done) | (go_simp; with_reducible rfl)
          try simp only [Act.put, setIfInBounds_toArray, set_cons_zero, set_cons_succ]
          refine AnyZ.takeE (i := 2) (d := 62) (oi := _) (v := ?_) rfl rfl rfl (by kernel_rfl) (by kernel_rfl) (by kernel_rfl) (by kernel_rfl) (by kernel_rfl) (by kernel_rfl) (fun _ _ _ h => h) (Or.inl ⟨by rfl, ?_⟩) (S11.of (R5.out.blk.ext (Ext.drew _)) (X5.out.ext (Ext.drew _))) ?_
          rotate_left
          · intro W hW; obtain ⟨s1, s2, s3, s4, s5, s6, s7, s8⟩ := hW; first | (go_simp; done) | (go_simp; with_reducible rfl)
          try simp only [Act.put, setIfInBounds_toArray, set_cons_zero, set_cons_succ]
          refine AnyZ.takeE (i := 3) (d := 63) (oi := _) (v := ?_) rfl rfl rfl (by kernel_rfl) (by kernel_rfl) (by kernel_rfl) (by kernel_rfl) (by kernel_rfl) (by kernel_rfl) (fun _ _ _ h => h) (Or.inl ⟨by rfl, ?_⟩) (S11.of (R5.out.blk.ext (Ext.drew _)) (X5.out.ext (Ext.drew _))) ?_
          rotate_left
          · intro W hW; obtain ⟨s1, s2, s3, s4, s5, s6, s7, s8⟩ := hW; first | (go_simp; done) | (go_simp; with_reducible rfl)
          try simp only [Act.put, setIfInBounds_toArray, set_cons_zero, set_cons_succ]
          refine AnyZ.takeE (i := 4) (d := 64) (oi := _) (v := ?_) rfl rfl rfl (by kernel_rfl) (by kernel_rfl) (by kernel_rfl) (by kernel_rfl) (by kernel_rfl) (by kernel_rfl) (fun _ _ _ h => h) (Or.inl ⟨by rfl, ?_⟩) (S11.of (R5.out.blk.ext (Ext.drew _)) (X5.out.ext (Ext.drew _))) ?_
          rotate_left
          · intro W hW; obtain ⟨s1, s2, s3, s4, s5, s6, s7, s8⟩ := hW; first | (go_simp; done) | (go_simp; with_reducible rfl)
          try simp only [Act.put, setIfInBounds_toArray, set_cons_zero, set_cons_succ]
          refine AnyZ.takeE (i := 5) (d := 65) (oi := _) (v := ?_) rfl rfl rfl (by kernel_rfl) (by kernel_rfl) (by kernel_rfl) (by kernel_rfl) (by kernel_rfl) (by kernel_rfl) (fun _ _ _ h => h) (Or.inl ⟨by rfl, ?_⟩) (S11.of (R5.out.blk.ext (Ext.drew _)) (X5.out.ext (Ext.drew _))) ?_
          rotate_left
          · intro W hW; obtain ⟨s1, s2, s3, s4, s5, s6, s7, s8⟩ := hW; first | (go_simp; done) | (go_simp; with_reducible rfl)
          try simp only [Act.put, setIfInBounds_toArray, set_cons_zero, set_cons_succ]
          refine AnyZ.takeE (i := 6) (d := 66) (oi := _) (v := ?_) rfl rfl rfl (by kernel_rfl) (by kernel_rfl) (by kernel_rfl) (by kernel_rfl) (by kernel_rfl) (by kernel_rfl) (fun _ _ _ h => h) (Or.inl ⟨by rfl, ?_⟩) (S11.of (R5.out.blk.ext (Ext.drew _)) (X5.out.ext (Ext.drew _))) ?_
          rotate_left
          · intro W hW; obtain ⟨s1, s2, s3, s4, s5, s6, s7, s8⟩ := hW; first | (go_simp; done) | (go_simp; with_reducible rfl)
          try simp only [Act.put, setIfInBounds_toArray, set_cons_zero, set_cons_succ]
          refine AnyZ.takeE (i := 7) (d := 67) (oi := _) (v := ?_) rfl rfl rfl (by kernel_rfl) (by kernel_rfl) (by kernel_rfl) (by kernel_rfl) (by kernel_rfl) (by kernel_rfl) (fun _ _ _ h => h) (Or.inl ⟨by rfl, ?_⟩) (S11.of (R5.out.blk.ext (Ext.drew _)) (X5.out.ext (Ext.drew _))) ?_
          rotate_left
          · intro W hW; obtain ⟨s1, s2, s3, s4, s5, s6, s7, s8⟩ := hW; first | (go_simp; done) | (go_simp; with_reducible rfl)
          try simp only [Act.put, setIfInBounds_toArray, set_cons_zero, set_cons_succ]
          refine AnyZ.takeE (i := 8) (d := 68) (oi := _) (v := ?_) rfl rfl rfl (by kernel_rfl) (by kernel_rfl) (by kernel_rfl) (by kernel_rfl) (by kernel_rfl) (by kernel_rfl) (fun _ _ _ h => h) (Or.inl ⟨by rfl, ?_⟩) (S11.of (R5.out.blk.ext (Ext.drew _)) (X5.out.ext (Ext.drew _))) ?_
          rotate_left
          · intro W hW; obtain ⟨s1, s2, s3, s4, s5, s6, s7, s8⟩ := hW; first | (go_simp; done) | (go_simp; with_reducible rfl)
          try simp only [Act.put, setIfInBounds_toArray, set_cons_zero, set_cons_succ]
          refine AnyZ.step (i := 9) rfl (by kernel_rfl) (fun K hK => ?_)
          go_simp
          go_at_call 28
          with_reducible refine (HEX.out _ (Ext.trans E5.out (Ext.drew _))).mono ?_
          rintro e w6 ⟨sA, sn, sc', pA, pn, pc, rfl, o1, o2, e6⟩
          have O1 := hide o1
          have O2 := hide o2
          have E6 : Hid (Ext wl w6) := hide (Ext.trans E5.out (Ext.trans (Ext.drew _) e6))
          have S3 : Hid (rb + 1 ≤ w5.drew.heap.size) := hide (by have h1 := R5.out.blk.lt; show rb + 1 ≤ w5.heap.size; omega)
          have X6 := hide ((X5.out.ext (Ext.drew _)).ext e6)
          have R6 := hide (HI.out.rd.ext E6.out)
          clear o1 o2 e6
          refine hK.out _ _ (fun h => (S11.of R6.out.blk X6.out)) ?_
          clear hK K
          try simp only [Act.put, setIfInBounds_toArray, set_cons_zero, set_cons_succ]
          refine AnyZ.takeE (i := 10) (d := 59) (oi := _) (v := ?_) rfl rfl rfl (by kernel_rfl) (by kernel_rfl) (by kernel_rfl) (by kernel_rfl) (by kernel_rfl) (by kernel_rfl) (fun _ _ _ h => h) (Or.inl ⟨by rfl, ?_⟩) (S11.of R6.out.blk X6.out) ?_
          rotate_left
          · intro W hW; obtain ⟨s1, s2, s3, s4, s5, s6, s7, s8⟩ := hW; first | (go_simp; done) | (go_simp; with_reducible rfl)
          try simp only [Act.put, setIfInBounds_toArray, set_cons_zero, set_cons_succ]
          refine AnyZ.takeE (i := 11) (d := 70) (oi := _) (v := ?_) rfl rfl rfl (by kernel_rfl) (by kernel_rfl) (by kernel_rfl) (by kernel_rfl) (by kernel_rfl) (by kernel_rfl) (fun _ _ _ h => h) (Or.inl ⟨by rfl, ?_⟩) (S11.of R6.out.blk X6.out) ?_
          rotate_left
          · intro W hW; obtain ⟨s1, s2, s3, s4, s5, s6, s7, s8⟩ := hW; first | (go_simp; done) | (go_simp; with_reducible rfl)
          try simp only [Act.put, setIfInBounds_toArray, set_cons_zero, set_cons_succ]
          refine AnyZ.takeE (i := 12) (d := 71) (oi := _) (v := ?_) rfl rfl rfl (by kernel_rfl) (by kernel_rfl) (by kernel_rfl) (by kernel_rfl) (by kernel_rfl) (by kernel_rfl) (fun _ _ _ h => h) (Or.inl ⟨by rfl, ?_⟩) (S11.of R6.out.blk X6.out) ?_
          rotate_left
          · intro W hW; obtain ⟨s1, s2, s3, s4, s5, s6, s7, s8⟩ := hW; first | (go_simp; done) | (go_simp; with_reducible rfl)
          try simp only [Act.put, setIfInBounds_toArray, set_cons_zero, set_cons_succ]
          refine AnyZ.takeE (i := 13) (d := 72) (oi := _) (v := ?_) rfl rfl rfl (by kernel_rfl) (by kernel_rfl) (by kernel_rfl) (by kernel_rfl) (by kernel_rfl) (by kernel_rfl) (fun _ _ _ h => h) (Or.inl ⟨by rfl, ?_⟩) (S11.of R6.out.blk X6.out) ?_
          rotate_left
          · intro W hW; obtain ⟨s1, s2, s3, s4, s5, s6, s7, s8⟩ := hW; first | (go_simp; done) | (go_simp; with_reducible rfl)
          try simp only [Act.put, setIfInBounds_toArray, set_cons_zero, set_cons_succ]
          refine AnyZ.takeE (i := 14) (d := 73) (oi := _) (v := ?_) rfl rfl rfl (by kernel_rfl) (by kernel_rfl) (by kernel_rfl) (by kernel_rfl) (by kernel_rfl) (by kernel_rfl) (fun _ _ _ h => h) (Or.inl ⟨by rfl, ?_⟩) (S11.of R6.out.blk X6.out) ?_
          rotate_left
          · intro W hW; obtain ⟨s1, s2, s3, s4, s5, s6, s7, s8⟩ := hW; first | (go_simp; done) | (go_simp; with_reducible rfl)
          try simp only [Act.put, setIfInBounds_toArray, set_cons_zero, set_cons_succ]
          refine AnyZ.takeE (i := 15) (d := 74) (oi := _) (v := ?_) rfl rfl rfl (by kernel_rfl) (by kernel_rfl) (by kernel_rfl) (by kernel_rfl) (by kernel_rfl) (by kernel_rfl) (fun _ _ _ h => h) (Or.inl ⟨by rfl, ?_⟩) (S11.of R6.out.blk X6.out) ?_
          rotate_left
          · intro W hW; obtain ⟨s1, s2, s3, s4, s5, s6, s7, s8⟩ := hW; first | (go_simp; done) | (go_simp; with_reducible rfl)
          try simp only [Act.put, setIfInBounds_toArray, set_cons_zero, set_cons_succ]
          obtain ⟨hb6_, hcr⟩ := R6.out.trk.blkOf
          have HCR := hide hcr
          have q6 : ∃ u, w6.cell? ⟨tO, i * 4 + 2, none⟩ = some u := ⟨_, by simpa using (R6.out.trk.atS len_eTk).cellK hlt default 2 _ rfl⟩
          obtain ⟨u6, q6⟩ := q6
          have qf6 := hcr.frozen (i * 4 + 2)
          clear hcr
          refine AnyZ.step (i := 16) rfl (by kernel_rfl) (fun K hK => ?_)
          go_simp
          have hT7 := Tw.set_ w6 tO (i * 4 + 2) (.slice sA sn sc') none
          have R7 := hide (Blk.off R6.out.blk HCR.out hT7 (by decide))
          have X7 := hide (Blk.off X6.out HCR.out hT7 (by decide))
          have PL6 := (HI.out.pls.ext E6.out)
          have PL7 := hide (PL6.tw hT7 (PL6.apartB HCR.out (by decide)) (by simp))
          clear hT7 q6 qf6 PL6
          refine hK.out _ _ (fun h => (S11.of R7.out X7.out)) ?_
          clear hK K
          try simp only [Act.put, setIfInBounds_toArray, set_cons_zero, set_cons_succ]
          obtain ⟨w7, hw7⟩ : ∃ w7, w7 = w6.setCell ⟨tO, i * 4 + 2, none⟩ (.slice sA sn sc') := ⟨_, rfl⟩
          rw [← hw7] at R7 X7 PL7 ⊢
          have HW7 := hide hw7
          clear hw7
          refine AnyZ.takeE (i := 17) (d := 75) (oi := _) (v := ?_) rfl rfl rfl (by kernel_rfl) (by kernel_rfl) (by kernel_rfl) (by kernel_rfl) (by kernel_rfl) (by kernel_rfl) (fun _ _ _ h => h) (Or.inl ⟨by rfl, ?_⟩) (S11.of R7.out X7.out) ?_
          rotate_left
          · intro W hW; obtain ⟨s1, s2, s3, s4, s5, s6, s7, s8⟩ := hW; first | (go_simp; done) | (go_simp; with_reducible rfl)
          try simp only [Act.put, setIfInBounds_toArray, set_cons_zero, set_cons_succ]
          obtain ⟨hb7_, hcp⟩ := PL7.out.blkOf
          have HCP := hide hcp
          have q7 : ∃ u, w7.cell? ⟨pO, i, none⟩ = some u := ⟨_, by simpa using (PL7.out.atS len_eB1).cellK hlt dQ 0 _ rfl⟩
          obtain ⟨u7, q7⟩ := q7
          have qf7 := hcp.frozen i
          clear hcp
          refine AnyZ.step (i := 18) rfl (by kernel_rfl) (fun K hK => ?_)
          go_simp
          have hT8 := Tw.set_ w7 pO i (.slice pA pn pc) none
          have R8 := hide (Blk.off R7.out HCP.out hT8 (by decide))
          have X8 := hide (Blk.off X7.out HCP.out hT8 (by decide))
          clear hT8 q7 qf7
          refine hK.out _ _ (fun h => (S11.of R8.out X8.out)) ?_
          clear hK K
          try simp only [Act.put, setIfInBounds_toArray, set_cons_zero, set_cons_succ]
          refine AnyZ.step (i := 19) rfl (by kernel_rfl) (fun K hK => ?_)
          go_simp
          refine hK.out _ _ (fun h => ?_) ?_
          · exact absurd (h.symm.trans (show _ = true by kernel_rfl)) (by simp)
          clear hK K
          try simp only [Act.put, setIfInBounds_toArray, set_cons_zero, set_cons_succ]
          refine AnyZ.done (by kernel_rfl) ?_ _
          have LTO : Hid (w.heap.size ≤ tO ∧ w.heap.size ≤ pO) := hide ⟨by have h1 := (HI.out.rd.trk.lt tO rfl).1; have := LRB.out; omega, by have h1 := (HI.out.pls.lt pO rfl).1; have := LRB.out; omega⟩
          have E3L : Hid (Ext w wl) := hide (ext_below E3.out HI.out.low (Nat.le_of_lt LRB.out.1))
          have E8 : Hid (Ext w (w7.setCell ⟨pO, i, none⟩ (.slice pA pn pc))) := hide (by
            rw [HW7.out]
            exact tw_ext' (tw_ext' (Ext.trans E3L.out E6.out) (Tw.set_ _ _ _ _ _) LTO.out.1) (Tw.set_ _ _ _ _ _) LTO.out.2)
          have F8 : Hid (Blk (w7.setCell ⟨pO, i, none⟩ (.slice pA pn pc)) fb 24 #[.int .i64 0, .slice none 0 0]) := hide (by
            have hL : Blk wl fb 24 #[.int .i64 0, .slice none 0 0] := (HI.out.low.block fb LRB.out.2).trans F3.out
            have h7 : Blk w7 fb 24 #[.int .i64 0, .slice none 0 0] := by rw [HW7.out]; exact Blk.off (hL.ext E6.out) HCR.out (Tw.set_ _ _ _ _ _) (by decide)
            exact Blk.off h7 HCP.out (Tw.set_ _ _ _ _ _) (by decide))
          by_cases hf : expF t = 0
          · have o1 := O1.out
            have o2 := O2.out
            rw [if_pos hf] at o1 o2
            have J8 : Hid (ExI w3 (w7.setCell ⟨pO, i, none⟩ (.slice pA pn pc)) rb sc (.slice (some ⟨tO, 0, none⟩) m tc) (.slice (some ⟨bO, 0, none⟩) m bc) r (i + 1) pO m (setH hs' i sA sn sc') ts (hp.set i (pA, pn, pc))) := hide (by
              rw [HW7.out]
              exact HI.out.step E6.out hlt hlt (by have := HM.out; omega) (by have := HM.out; omega) (by rw [HT.out]; exact o1) (by rw [HT.out]; exact o2) S3.out S3.out)
            have HA2 : Hid (∀ j, j < i + 1 → expF (r.getD j default).tab = 0) := hide (fun j hj => by
              rcases Nat.lt_succ_iff_lt_or_eq.1 hj with h | h
              · exact HA.out j h
              · rw [h, HT.out]; exact hf)
            clear o1 o2
            go_wp2_with fail
            go_roundw
            case measure => simp [intOf]; omega
            first | (refine (?_ : ∃ (_ : Nat), _)) | ((repeat apply Exists.intro); refine ⟨?_, rfl⟩)
            exact ⟨i + 1, _, _, by omega, by go_num, HA2, J8⟩
          · have HE : Hid (rfmF b = rfErr 0 (expF t)) := hide (by
              have h1 := HFS.out hf
              simp only [HT.out] at h1
              rw [HRF.out, h1, if_pos hf])
            have hne : (expF t != 0) = true := by simpa using hf
            have g0 : (w7.setCell ⟨pO, i, none⟩ (.slice pA pn pc)).cell? ⟨fb, 0, none⟩ = some (.int .i64 0) := F8.out.cell 0
            have g1 : (w7.setCell ⟨pO, i, none⟩ (.slice pA pn pc)).cell? ⟨fb, 1, none⟩ = some (.slice none 0 0) := F8.out.cell 1
            have gf0 := F8.out.frozen 0
            have gf1 := F8.out.frozen 1
            obtain ⟨w8, hw8⟩ : ∃ w8, w8 = w7.setCell ⟨pO, i, none⟩ (.slice pA pn pc) := ⟨_, rfl⟩
            rw [← hw8] at g0 g1 gf0 gf1 E8 F8 ⊢
            clear hw8
            go_wp2_with fail
            refine gen_bod fun wz hz => ?_
            have FZ : Blk wz fb 24 #[.int .i64 0, .slice none 0 0] := by rw [hz]; exact (F8.out.set_ 0 _).set_ 1 _
            have EZ : Ext w wz := by
              have h1 := tw_ext' E8.out (Tw.set_ w8 fb 0 (.int .i64 0) none) HFB.out
              rw [hz]; exact tw_ext' h1 (Tw.set_ _ fb 1 (.slice none 0 0) none) HFB.out
            have k0 : wz.cell? ⟨fb, 0, none⟩ = some (.int .i64 0) := FZ.cell 0
            have k1 : wz.cell? ⟨fb, 1, none⟩ = some (.slice none 0 0) := FZ.cell 1
            refine bodyPost_ret (v := .tuple #[.agg #[.int .i64 0, .slice none 0 0], .slice none 0 0, .int .i64 0, .int .i64 (expF t)]) (by simp [results, Try.results9, go_sem, k0, k1]) rfl ?_
            exact RfG.err HE.out EZ
        · obtain rfl : i = m := by omega
          have hFZ : firstF (fun i => expF (r.getD i default).tab) r.length = 0 := firstF_zero (fun j hj => HA.out j (by have := HM.out; omega))
          have HRG : Hid (rfmF b = if filF sc (r.map trkOf) ≠ 0 then rfErr 0 (filF sc (r.map trkOf))
            else if (r.all fun t => (spS t.tab).all (okSp l)) = true then ⟨sc, r.map trkOf, r.map fun t => spB b (spS t.tab), 0, 0⟩ else rfErr 0 1) := hide (by rw [HRF.out, hFZ, if_neg (by simp)])
          have E3L : Hid (Ext w wl) := hide (ext_below E3.out HI.out.low (Nat.le_of_lt LRB.out.1))
          have FL : Hid (Blk wl fb 24 #[.int .i64 0, .slice none 0 0]) := hide ((HI.out.low.block fb LRB.out.2).trans F3.out)
          have hml : mixL r i = r.map trkOf := by have := HM.out; rw [← this]; exact mixL_all r
          have TK : Hid (TksAt wl tA i tc hs' (r.map trkOf)) := hide (by
            obtain ⟨_, k2, _, k4, _, G, _, g2, _⟩ := HI.out.rd
            rw [hml] at k4 g2
            have hlh : hs'.length = i := by rw [k4, List.length_map]; exact HM.out
            exact ⟨k2.atS len_eTk, by rw [List.length_map]; exact HM.out, fun j hj => by
              have e1 : hs'[j]? = some (hs'.getD j default) := by rw [List.getD_eq_getElem?_getD, List.getElem?_eq_getElem (by omega)]; rfl
              have e2 : (r.map trkOf)[j]? = some ((r.map trkOf).getD j default) := by rw [List.getD_eq_getElem?_getD, List.getElem?_eq_getElem (by omega)]; rfl
              exact (g2 j _ _ e1 e2).ok⟩)
          have HNM : Hid (nmF (r.map trkOf)) := hide (fun j hj => by
            rw [List.length_map] at hj
            have e2 : (r.map trkOf).getD j default = trkOf (r.getD j default) := by rw [List.getD_eq_getElem?_getD, List.getElem?_map, List.getD_eq_getElem?_getD, List.getElem?_eq_getElem hj]; rfl
            rw [e2]
            have h1 := HOK.out.nm (r.getD j default) (by rw [List.getD_eq_getElem?_getD, List.getElem?_eq_getElem hj]; exact List.getElem_mem _)
            show (r.getD j default).name.length ≤ maxLen
            have := HPL.out.1
            unfold maxLen; omega)
          have HCK := hide (checkFilm_any (sc := sc) TK.out HNM.out)
          have r0 : wl.cell? ⟨rb, 0, none⟩ = some (.int .i64 sc) := HI.out.rd.blk.cell 0
          have r1 : wl.cell? ⟨rb, 1, none⟩ = some (.slice tA i tc) := HI.out.rd.blk.cell 1
          clear hFZ hml hlt hi
          go_wp2_with fail
          with_reducible refine HCK.out.mono ?_
          rintro e w5 ⟨rfl, e5⟩
          have E5 := hide e5
          have EW5 : Hid (Ext w w5) := hide (Ext.trans E3L.out e5)
          have F5 := hide (FL.out.ext e5)
          have HFB2 : Hid (fb < wl.heap.size) := hide FL.out.lt
          have E5W : Hid (wl.heap.size ≤ w5.heap.size) := hide e5.size
          clear e5 r0 r1
          by_cases hf : filF sc (r.map trkOf) = 0
          case neg =>
            have HE : Hid (rfmF b = rfErr 0 (filF sc (r.map trkOf))) := hide (by rw [HRG.out, if_pos hf])
            have hne : (filF sc (r.map trkOf) != 0) = true := by simpa using hf
            generalize filF sc (r.map trkOf) = ff at *
            have g0 : w5.cell? ⟨fb, 0, none⟩ = some (.int .i64 0) := F5.out.cell 0
            have g1 : w5.cell? ⟨fb, 1, none⟩ = some (.slice none 0 0) := F5.out.cell 1
            have gf0 := F5.out.frozen 0
            have gf1 := F5.out.frozen 1
            go_wp2_with fail
            refine gen_bod fun wz hz => ?_
            have FZ : Blk wz fb 24 #[.int .i64 0, .slice none 0 0] := by rw [hz]; exact (F5.out.set_ 0 _).set_ 1 _
            have EZ : Ext w wz := by
              have h1 := tw_ext' EW5.out (Tw.set_ w5 fb 0 (.int .i64 0) none) HFB.out
              rw [hz]; exact tw_ext' h1 (Tw.set_ _ fb 1 (.slice none 0 0) none) HFB.out
            have k0 : wz.cell? ⟨fb, 0, none⟩ = some (.int .i64 0) := FZ.cell 0
            have k1 : wz.cell? ⟨fb, 1, none⟩ = some (.slice none 0 0) := FZ.cell 1
            refine bodyPost_ret (v := .tuple #[.agg #[.int .i64 0, .slice none 0 0], .slice none 0 0, .int .i64 0, .int .i64 ff]) (by simp [results, Try.results9, go_sem, k0, k1]) rfl ?_
            exact RfG.err HE.out EZ
          case pos =>
          have HRH : Hid (rfmF b = if (r.all fun t => (spS t.tab).all (okSp l)) = true then ⟨sc, r.map trkOf, r.map fun t => spB b (spS t.tab), 0, 0⟩ else rfErr 0 1) := hide (by rw [HRG.out, if_neg (by simp [hf])])
          obtain ⟨j0_, hj0, hy0, hy1, hy2⟩ := info_parts Try.info28
          obtain ⟨u0_, hu0, hv0, hv1, hv2⟩ := info_parts Try.info5
          have hmk := made_run (P := Try.prog) 25 28 j0_ (.slice none 0 0) Try.underlying25 hj0 hy0 (sz := 1) hy1 (bytes := 24) hy2 i (by omega) (by omega)
          go_upto_region 19 with (fail)
          refine gen_wpC fun w6 h6 => ?_
          obtain ⟨dO, hdO⟩ : ∃ dO, dO = w5.heap.size := ⟨_, rfl⟩
          have D6 : Hid (DaI w5 w6 dO i (List.replicate i dQ) (dF b r 0 0)) := hide (by
            have h9 := DaI.start (w5 := w5) (m := i) (by unfold maxLen; omega)
            rw [h6, hdO]; exact h9.fn (fun j _ => dF_zero b r j))
          rw [← hdO]
          clear h6 hdO hmk hf
          obtain ⟨m, hmi⟩ : ∃ m, m = i := ⟨_, rfl⟩
          rw [← hmi] at D6 TK HI HM HA ⊢
          have hrl : m ≤ 1000000 := by omega
          clear hmi
          have HPS := hide (fun (j : Nat) (hj : j < m) => (HI.out.pok j hj).ext E5.out)
          have HPL5 := hide ((HI.out.pls.ext E5.out).atS len_eB1)
          have HEN : Hid (∀ x ∈ l, x.en ≤ b.length) := hide (parP_en b _ 0 b.length 0 0 l cc HPL.out.2 (by omega))
          have HWI := hide (fun (W : World) (p z : Int) (hW : Ext w5 W) (hp : 0 ≤ p ∧ p ≤ 1000000000) (hz : 0 ≤ z ∧ z ≤ 100000) => within_any (((HND3.out.good HI.out.low.block (fun _ hk => hk)).good (H := fun k => k < rb) (fun k hk => E5.out.block k (Nat.lt_trans hk HI.out.rd.blk.lt)) (fun _ hk => hk)).good (w' := W) (H := fun k => k < rb) (fun k hk => hW.block k (Nat.lt_of_lt_of_le (Nat.lt_trans hk HI.out.rd.blk.lt) E5.out.size)) (fun _ hk => hk)) hp hz)
          go_wp2_with fail
          go_loopw [95] (fun ri wr => ∃ (q : Nat) (hd : List (Option Addr × Nat × Nat)), q ≤ m ∧ ri = .int .i64 (q : Int) ∧ Hid (∀ j, j < q → (spS (r.getD j default).tab).all (okSp l) = true) ∧ Hid (DaI w5 wr dO m hd (dF b r q 0))) (fun ri _ => m - (intOf ri).toNat)
          case atStart => exact ⟨0, _, by omega, rfl, hide (fun j hj => by omega), D6⟩
          case round =>
            clear D6
            obtain ⟨q, hd, hq, rfl, HALL, HD⟩ := hrel
            obtain ⟨wo, hwo⟩ : ∃ wo, wo = wr := ⟨_, rfl⟩
            subst hwo
            by_cases hlt : q < m
            · obtain ⟨ph, hph⟩ : ∃ x, hp.getD q dQ = x := ⟨_, rfl⟩
              obtain ⟨pA, pn, pc⟩ := ph
              have hsp := HPS.out q hlt
              rw [hph, if_pos hlt] at hsp
              obtain ⟨S, hS⟩ : ∃ S, spS (r.getD q default).tab = S := ⟨_, rfl⟩
              rw [hS] at hsp
              have hsl : S.length = pn := hsp.len len_e2
              obtain ⟨hs5, hsb⟩ := sp_right (HA.out q hlt)
              have hsf := fun k => spB_few (b := b) (HA.out q hlt) k
              rw [hS] at hs5 hsb hsf
              have HS := hide hS
              have HSP := hide (hsp.atS len_e2)
              have HSB := hide hsb
              have HSF := hide hsf
              have a0 : wo.cell? ⟨pO, q, none⟩ = some (.slice pA pn pc) := by simpa using (HPL5.out.ext HD.out.ext).cellK hlt dQ 0 _ (by rw [hph]; rfl)
              have HHP := hide hph
              have i1 : (q : Int) < (m : Int) := by omega
              have i0 : (0 : Int) ≤ (q : Int) := by omega
              clear hsp hsb hsf hS hph
              go_wp2_with fail
              go_loopw [102] (fun rk wx => ∃ (k : Nat) (hd' : List (Option Addr × Nat × Nat)), k ≤ pn ∧ rk = .int .i64 (k : Int) ∧ Hid (∀ j, j < k → okSp l (S.getD j (0, 0)) = true) ∧ Hid (DaI w5 wx dO m hd' (dF b r q k))) (fun rk _ => pn - (intOf rk).toNat)
              case atStart => exact ⟨0, _, by omega, rfl, hide (fun j hj => by omega), HD⟩
              case round =>
                clear HD a0
                obtain ⟨k, hd', hk, rfl, HKA, HDK⟩ := hrel
                by_cases hlk : k < pn
                · obtain ⟨pb, po, rfl, _⟩ := HSP.out.addr (by omega)
                  obtain ⟨b0, b1⟩ := (HSP.out.ext HDK.out.ext).pair hlk
                  obtain ⟨hb1, hb2⟩ := HSB.out k (by omega)
                  have HT1 := hide (fun (h0 : (S.getD k (0, 0)).2 = 0) => spB_none (b := b) (s := S) (k := k) (by omega) h0)
                  have HT2 : Hid (spB b (S.take (k + 1)) = spB b (S.take k) ++ pcB b (S.getD k (0, 0)).1.toNat ((S.getD k (0, 0)).1 + (S.getD k (0, 0)).2).toNat) := hide (spB_take (by omega))
                  have HOKS : Hid (okSp l ((S.getD k (0, 0)).1, (S.getD k (0, 0)).2) = true → ∀ j, j < k + 1 → okSp l (S.getD j (0, 0)) = true) := hide (fun h0 j hj => by
                    rcases Nat.lt_succ_iff_lt_or_eq.1 hj with h | h
                    · exact HKA.out j h
                    · rw [h]; exact h0)
                  have HBAD : Hid (okSp l ((S.getD k (0, 0)).1, (S.getD k (0, 0)).2) = false → (r.all fun t => (spS t.tab).all (okSp l)) = false) := hide (fun h0 => by
                    rw [List.all_eq_false]
                    refine ⟨r.getD q default, by rw [List.getD_eq_getElem?_getD, List.getElem?_eq_getElem (by have := HM.out; omega)]; exact List.getElem_mem _, ?_⟩
                    rw [HS.out, Bool.not_eq_true, List.all_eq_false]
                    refine ⟨S.getD k (0, 0), by rw [List.getD_eq_getElem?_getD, List.getElem?_eq_getElem (by omega)]; exact List.getElem_mem _, ?_⟩
                    rw [show S.getD k (0, 0) = ((S.getD k (0, 0)).1, (S.getD k (0, 0)).2) from rfl, h0]; simp)
                  generalize (S.getD k (0, 0)).1 = p at *
                  generalize (S.getD k (0, 0)).2 = z at *
                  obtain ⟨P, rfl⟩ : ∃ P : Nat, p = (P : Int) := ⟨p.toNat, by omega⟩
                  obtain ⟨Z, rfl⟩ : ∃ Z : Nat, z = (Z : Int) := ⟨z.toNat, by omega⟩
                  have j1 : (k : Int) < (pn : Int) := by omega
                  have j0 : (0 : Int) ≤ (k : Int) := by omega
                  have j8 : IntKind.i64.wrap ((k : Int) + 1) = (k : Int) + 1 := by rw [IntKind.wrap_i64]; omega
                  go_upto_region 25 with (fail)
                  refine gen_wpC fun w7 h7 => ?_
                  obtain ⟨sb, hsb⟩ : ∃ sb, sb = wr.heap.size := ⟨_, rfl⟩
                  rw [← hsb]
                  have E7 : Hid (Ext wr w7) := hide (by rw [h7]; exact Ext.alloc _ _)
                  have X7 : Hid (Blk w7 sb 87 #[.int .i64 (P : Int), .int .i64 (Z : Int)]) := hide (by rw [h7, hsb]; exact Blk.new _ _ _)
                  have HW7 := hide (HWI.out w7 (P : Int) (Z : Int) (Ext.trans HDK.out.ext E7.out) hb1 hb2)
                  have z0 : w7.cell? ⟨sb, 0, none⟩ = some (.int .i64 (P : Int)) := X7.out.cell 0
                  have z1 : w7.cell? ⟨sb, 1, none⟩ = some (.int .i64 (Z : Int)) := X7.out.cell 1
                  clear h7 hsb b0 b1
                  by_cases hin : okSp l ((P : Int), (Z : Int)) = true
                  · have HKA2 := hide (HOKS.out hin)
                    have HINB := hide (fun (h0 : (0 : Int) < (Z : Int)) => okSp_in HEN.out hin h0)
                    rw [hin] at HW7
                    clear hin
                    go_wp2_with fail
                    with_reducible refine HW7.out.mono ?_
                    rintro e w8 ⟨rfl, e8⟩
                    have EK8 : Hid (Ext wr w8) := hide (Ext.trans E7.out e8)
                    have E8 : Hid (Ext w5 w8) := hide (Ext.trans HDK.out.ext EK8.out)
                    have X8 := hide (X7.out.ext e8)
                    clear z0 z1 e8
                    have z1 : w8.cell? ⟨sb, 1, none⟩ = some (.int .i64 (Z : Int)) := X8.out.cell 1
                    by_cases hz : 0 < Z
                    · have hbz := HINB.out (by omega)
                      have jz : (Z : Int) > 0 := by omega
                      have HB8 := hide (H.out.ext (Ext.trans EW5.out E8.out))
                      obtain ⟨bb, ob, rfl, _⟩ := HB8.out.addr (by omega)
                      have hcc := HB8.out.le
                      have jp0 : (0 : Int) ≤ (P : Int) := by omega
                      have jp1 : (0 : Int) ≤ (P : Int) + (Z : Int) := by omega
                      have jp2 : (P : Int) ≤ (P : Int) + (Z : Int) := by omega
                      have jp3 : (P : Int) + (Z : Int) ≤ (c : Int) := by omega
                      have jp4 : IntKind.i64.wrap ((P : Int) + (Z : Int)) = (P : Int) + (Z : Int) := by rw [IntKind.wrap_i64]; omega
                      have jc : ¬ c = P := by omega
                      have jn : (0 : Int) ≤ (q : Int) := by omega
                      obtain ⟨vv, hvv⟩ : ∃ x, hd'.getD q dQ = x := ⟨_, rfl⟩
                      obtain ⟨vA, vn, vc⟩ := vv
                      have D8 := hide (HDK.out.extW EK8.out)
                      have HVV := hide hvv
                      have QD8 : Hid (w8.cell? ⟨dO, q, none⟩ = some (.slice vA vn vc)) := hide (by simpa using (D8.out.own.atS len_eB1).cellK hlt dQ 0 _ (by rw [hvv]; rfl))
                      clear hvv
                      go_upto_region 28 with (fail)
                      refine region_z (S := fun W => W.cell? ⟨dO, q, none⟩ = some (.slice vA vn vc) ∧ W.cell? ⟨sb, 0, none⟩ = some (.int .i64 (P : Int)) ∧ W.cell? ⟨sb, 1, none⟩ = some (.int .i64 (Z : Int))) 16 (by kernel_rfl) ?_
                      refine AnyZ.takeE (i := 0) (d := 114) (oi := _) (v := ?_) rfl rfl rfl (by kernel_rfl) (by kernel_rfl) (by kernel_rfl) (by kernel_rfl) (by kernel_rfl) (by kernel_rfl) (fun _ _ _ h => h) (Or.inl ⟨by rfl, ?_⟩) ⟨(Ext.drew w8).cell QD8.out, (X8.out.ext (Ext.drew w8)).cell 0, (X8.out.ext (Ext.drew w8)).cell 1⟩ ?_
                      rotate_left
                      · intro W hW; obtain ⟨s1, s2, s3⟩ := hW; first | (go_simp; done) | (go_simp; with_reducible rfl)
                      try simp only [Act.put, setIfInBounds_toArray, set_cons_zero, set_cons_succ]
                      refine AnyZ.takeE (i := 1) (d := 115) (oi := _) (v := ?_) rfl rfl rfl (by kernel_rfl) (by kernel_rfl) (by kernel_rfl) (by kernel_rfl) (by kernel_rfl) (by kernel_rfl) (fun _ _ _ h => h) (Or.inl ⟨by rfl, ?_⟩) ⟨(Ext.drew w8).cell QD8.out, (X8.out.ext (Ext.drew w8)).cell 0, (X8.out.ext (Ext.drew w8)).cell 1⟩ ?_
                      rotate_left
                      · intro W hW; obtain ⟨s1, s2, s3⟩ := hW; first | (go_simp; done) | (go_simp; with_reducible rfl)
                      try simp only [Act.put, setIfInBounds_toArray, set_cons_zero, set_cons_succ]
                      refine AnyZ.takeE (i := 2) (d := 116) (oi := _) (v := ?_) rfl rfl rfl (by kernel_rfl) (by kernel_rfl) (by kernel_rfl) (by kernel_rfl) (by kernel_rfl) (by kernel_rfl) (fun _ _ _ h => h) (Or.inl ⟨by rfl, ?_⟩) ⟨(Ext.drew w8).cell QD8.out, (X8.out.ext (Ext.drew w8)).cell 0, (X8.out.ext (Ext.drew w8)).cell 1⟩ ?_
                      rotate_left
                      · intro W hW; obtain ⟨s1, s2, s3⟩ := hW; first | (go_simp; done) | (go_simp; with_reducible rfl)
                      try simp only [Act.put, setIfInBounds_toArray, set_cons_zero, set_cons_succ]
                      refine AnyZ.takeE (i := 3) (d := 117) (oi := _) (v := ?_) rfl rfl rfl (by kernel_rfl) (by kernel_rfl) (by kernel_rfl) (by kernel_rfl) (by kernel_rfl) (by kernel_rfl) (fun _ _ _ h => h) (Or.inl ⟨by rfl, ?_⟩) ⟨(Ext.drew w8).cell QD8.out, (X8.out.ext (Ext.drew w8)).cell 0, (X8.out.ext (Ext.drew w8)).cell 1⟩ ?_
                      rotate_left
                      · intro W hW; obtain ⟨s1, s2, s3⟩ := hW; first | (go_simp; done) | (go_simp; with_reducible rfl)
                      try simp only [Act.put, setIfInBounds_toArray, set_cons_zero, set_cons_succ]
                      refine AnyZ.takeE (i := 4) (d := 118) (oi := _) (v := ?_) rfl rfl rfl (by kernel_rfl) (by kernel_rfl) (by kernel_rfl) (by kernel_rfl) (by kernel_rfl) (by kernel_rfl) (fun _ _ _ h => h) (Or.inl ⟨by rfl, ?_⟩) ⟨(Ext.drew w8).cell QD8.out, (X8.out.ext (Ext.drew w8)).cell 0, (X8.out.ext (Ext.drew w8)).cell 1⟩ ?_
                      rotate_left
                      · intro W hW; obtain ⟨s1, s2, s3⟩ := hW; first | (go_simp; done) | (go_simp; with_reducible rfl)
                      try simp only [Act.put, setIfInBounds_toArray, set_cons_zero, set_cons_succ]
                      refine AnyZ.takeE (i := 5) (d := 119) (oi := _) (v := ?_) rfl rfl rfl (by kernel_rfl) (by kernel_rfl) (by kernel_rfl) (by kernel_rfl) (by kernel_rfl) (by kernel_rfl) (fun _ _ _ h => h) (Or.inl ⟨by rfl, ?_⟩) ⟨(Ext.drew w8).cell QD8.out, (X8.out.ext (Ext.drew w8)).cell 0, (X8.out.ext (Ext.drew w8)).cell 1⟩ ?_
                      rotate_left
                      · intro W hW; obtain ⟨s1, s2, s3⟩ := hW; first | (go_simp; done) | (go_simp; with_reducible rfl)
                      try simp only [Act.put, setIfInBounds_toArray, set_cons_zero, set_cons_succ]
                      refine AnyZ.takeE (i := 6) (d := 120) (oi := _) (v := ?_) rfl rfl rfl (by kernel_rfl) (by kernel_rfl) (by kernel_rfl) (by kernel_rfl) (by kernel_rfl) (by kernel_rfl) (fun _ _ _ h => h) (Or.inl ⟨by rfl, ?_⟩) ⟨(Ext.drew w8).cell QD8.out, (X8.out.ext (Ext.drew w8)).cell 0, (X8.out.ext (Ext.drew w8)).cell 1⟩ ?_
                      rotate_left
                      · intro W hW; obtain ⟨s1, s2, s3⟩ := hW; first | (go_simp; done) | (go_simp; with_reducible rfl)
                      try simp only [Act.put, setIfInBounds_toArray, set_cons_zero, set_cons_succ]
                      refine AnyZ.takeE (i := 7) (d := 121) (oi := _) (v := ?_) rfl rfl rfl (by kernel_rfl) (by kernel_rfl) (by kernel_rfl) (by kernel_rfl) (by kernel_rfl) (by kernel_rfl) (fun _ _ _ h => h) (Or.inl ⟨by rfl, ?_⟩) ⟨(Ext.drew w8).cell QD8.out, (X8.out.ext (Ext.drew w8)).cell 0, (X8.out.ext (Ext.drew w8)).cell 1⟩ ?_
                      rotate_left
                      · intro W hW; obtain ⟨s1, s2, s3⟩ := hW; first | (go_simp; done) | (go_simp; with_reducible rfl)
                      try simp only [Act.put, setIfInBounds_toArray, set_cons_zero, set_cons_succ]
                      refine AnyZ.takeE (i := 8) (d := 122) (oi := _) (v := ?_) rfl rfl rfl (by kernel_rfl) (by kernel_rfl) (by kernel_rfl) (by kernel_rfl) (by kernel_rfl) (by kernel_rfl) (fun _ _ _ h => h) (Or.inl ⟨by rfl, ?_⟩) ⟨(Ext.drew w8).cell QD8.out, (X8.out.ext (Ext.drew w8)).cell 0, (X8.out.ext (Ext.drew w8)).cell 1⟩ ?_
                      rotate_left
                      · intro W hW; obtain ⟨s1, s2, s3⟩ := hW; first | (go_simp; done) | (go_simp; with_reducible rfl)
                      try simp only [Act.put, setIfInBounds_toArray, set_cons_zero, set_cons_succ]
                      refine AnyZ.takeE (i := 9) (d := 123) (oi := _) (v := ?_) rfl rfl rfl (by kernel_rfl) (by kernel_rfl) (by kernel_rfl) (by kernel_rfl) (by kernel_rfl) (by kernel_rfl) (fun _ _ _ h => h) (Or.inl ⟨by rfl, ?_⟩) ⟨(Ext.drew w8).cell QD8.out, (X8.out.ext (Ext.drew w8)).cell 0, (X8.out.ext (Ext.drew w8)).cell 1⟩ ?_
                      rotate_left
                      · intro W hW; obtain ⟨s1, s2, s3⟩ := hW; first | (go_simp; done) | (go_simp; with_reducible rfl)
                      try simp only [Act.put, setIfInBounds_toArray, set_cons_zero, set_cons_succ]
                      refine AnyZ.takeE (i := 10) (d := 124) (oi := _) (v := ?_) rfl rfl rfl (by kernel_rfl) (by kernel_rfl) (by kernel_rfl) (by kernel_rfl) (by kernel_rfl) (by kernel_rfl) (fun _ _ _ h => h) (Or.inl ⟨by rfl, ?_⟩) ⟨(Ext.drew w8).cell QD8.out, (X8.out.ext (Ext.drew w8)).cell 0, (X8.out.ext (Ext.drew w8)).cell 1⟩ ?_
                      rotate_left
                      · intro W hW; obtain ⟨s1, s2, s3⟩ := hW; first | (go_simp; done) | (go_simp; with_reducible rfl)
                      try simp only [Act.put, setIfInBounds_toArray, set_cons_zero, set_cons_succ]
                      refine AnyZ.takeE (i := 11) (d := 125) (oi := _) (v := ?_) rfl rfl rfl (by kernel_rfl) (by kernel_rfl) (by kernel_rfl) (by kernel_rfl) (by kernel_rfl) (by kernel_rfl) (fun _ _ _ h => h) (Or.inl ⟨by rfl, ?_⟩) ⟨(Ext.drew w8).cell QD8.out, (X8.out.ext (Ext.drew w8)).cell 0, (X8.out.ext (Ext.drew w8)).cell 1⟩ ?_
                      rotate_left
                      · intro W hW; obtain ⟨s1, s2, s3⟩ := hW; first | (go_simp; done) | (go_simp; with_reducible rfl)
                      try simp only [Act.put, setIfInBounds_toArray, set_cons_zero, set_cons_succ]
                      refine AnyZ.takeE (i := 12) (d := 126) (oi := _) (v := ?_) rfl rfl rfl (by kernel_rfl) (by kernel_rfl) (by kernel_rfl) (by kernel_rfl) (by kernel_rfl) (by kernel_rfl) (fun _ _ _ h => h) (Or.inl ⟨by rfl, ?_⟩) ⟨(Ext.drew w8).cell QD8.out, (X8.out.ext (Ext.drew w8)).cell 0, (X8.out.ext (Ext.drew w8)).cell 1⟩ ?_
                      rotate_left
                      · intro W hW; obtain ⟨s1, s2, s3⟩ := hW; first | (go_simp; done) | (go_simp; with_reducible rfl)
                      try simp only [Act.put, setIfInBounds_toArray, set_cons_zero, set_cons_succ]
                      refine AnyZ.takeE (i := 13) (d := 127) (oi := _) (v := ?_) rfl rfl rfl (by kernel_rfl) (by kernel_rfl) (by kernel_rfl) (by kernel_rfl) (by kernel_rfl) (by kernel_rfl) (fun _ _ _ h => h) (Or.inl ⟨by rfl, ?_⟩) ⟨(Ext.drew w8).cell QD8.out, (X8.out.ext (Ext.drew w8)).cell 0, (X8.out.ext (Ext.drew w8)).cell 1⟩ ?_
                      rotate_left
                      · intro W hW; obtain ⟨s1, s2, s3⟩ := hW; first | (go_simp; done) | (go_simp; with_reducible rfl)
                      try simp only [Act.put, setIfInBounds_toArray, set_cons_zero, set_cons_succ]
                      refine AnyZ.takeE (i := 14) (d := 128) (oi := _) (v := ?_) rfl rfl rfl (by kernel_rfl) (by kernel_rfl) (by kernel_rfl) (by kernel_rfl) (by kernel_rfl) (by kernel_rfl) (fun _ _ _ h => h) (Or.inl ⟨by rfl, ?_⟩) ⟨(Ext.drew w8).cell QD8.out, (X8.out.ext (Ext.drew w8)).cell 0, (X8.out.ext (Ext.drew w8)).cell 1⟩ ?_
                      rotate_left
                      · intro W hW; obtain ⟨s1, s2, s3⟩ := hW; first | (go_simp; done) | (go_simp; with_reducible rfl)
                      try simp only [Act.put, setIfInBounds_toArray, set_cons_zero, set_cons_succ]
                      refine AnyZ.step (i := 15) rfl (by kernel_rfl) (fun K hK => ?_)
                      have hvr := D8.out.rows q hlt
                      rw [HVV.out] at hvr
                      have HP8 : Hid (At w8.drew 1 e8 (some ⟨bb, ob + P, none⟩) Z (c - P) ((b.drop P).take Z)) := hide (by
                        have h1 := ((HB8.out.ext (Ext.drew _)).cutAt (k := P) (by omega) (by omega)).upto (k := Z) (by omega)
                        simpa using h1)
                      have hfl : (dF b r q k q).length ≤ 500000000 := by
                        unfold dF
                        rw [if_neg (by omega), if_pos rfl, HS.out]
                        exact HSF.out k
                      have S1 : Hid ((dF b r q k q).length + Z ≤ maxLen) := hide (by unfold maxLen; omega)
                      have S2 : Hid (((dF b r q k q).length + Z) * 1 ≤ 140737488355328) := hide (by omega)
                      have S3 : Hid (w5.heap.size ≤ w8.drew.heap.size) := hide (by have := E8.out.size; exact this)
                      have HVR := hide hvr
                      refine step_append_at rfl (.tmp 119) (.tmp 128) 28 rfl w5.heap.size 5 u0_ _ 1 Try.underlying28 hu0 hv0 hv1 hv2 rfl (by omega) len_e8 one_e8 _ (dF b r q k q) (by rfl) (HVR.out.ext (Ext.drew _)) (some ⟨bb, ob + P, none⟩) Z (c - P) ((b.drop P).take Z) ?_ HP8.out S1.out S2.out S3.out ?_
                      · simp [Act.eval]
                        omega
                      intro v7 w9 o7 g7 _ r7
                      obtain ⟨A7, c7, hv7, _⟩ := o7.at_ len_e8
                      obtain ⟨n7, hn7⟩ : ∃ n7, (dF b r q k q ++ (b.drop P).take Z).length = n7 := ⟨_, rfl⟩
                      rw [hn7] at hv7
                      subst hv7
                      have hown := D8.out.own.ext (Ext.drew w8)
                      obtain ⟨cdO, hcd⟩ := hown.blkOf
                      have hvo := HVR.out.ext (Ext.drew w8)
                      have HD9 : Hid (Blk w9 dO 28 cdO) := hide ((g7.block dO hcd.lt (fun e => hvo.apartB hcd (by decide) e.symm)).trans hcd)
                      have HX9 : Hid (Blk w9 sb 87 #[.int .i64 (P : Int), .int .i64 (Z : Int)]) := hide ((g7.block sb (X8.out.ext (Ext.drew w8)).lt (fun e => hvo.apartB (X8.out.ext (Ext.drew w8)) (by decide) e.symm)).trans (X8.out.ext (Ext.drew w8)))
                      have q9 : w9.cell? ⟨dO, q, none⟩ = some (.slice vA vn vc) := g7.cell ((Ext.drew w8).cell QD8.out) (fun e => hvo.apartB hcd (by decide) e.symm)
                      have qf9 := HD9.out.frozen q
                      have D9 : Hid (DaI w5 (w9.setCell ⟨dO, q, none⟩ (.slice A7 n7 c7)) dO m (hd'.set q (A7, n7, c7)) (dF b r q (k + 1))) := hide (by
                        have h1 := D8.out.app (i := q) (l := (b.drop P).take Z) (w6 := w8.drew) (w7 := w9) (vA := A7) (vn := n7) (vc := c7) (Ext.drew w8) hlt o7 (by rw [HVV.out]; exact g7) (by rw [HVV.out]; exact r7)
                        refine h1.fn (fun j _ => dF_more (by
                          rw [HS.out, HT2.out]
                          congr 1
                          unfold pcB
                          rw [Int.toNat_natCast, show ((P : Int) + (Z : Int)).toNat - P = Z by omega]) j))
                      clear o7 g7 r7 hn7 hown hcd hvo hvr hfl
                      refine hK.out _ _ (fun h => ⟨q9, HX9.out.cell 0, HX9.out.cell 1⟩) ?_
                      clear hK K
                      try simp only [Act.put, setIfInBounds_toArray, set_cons_zero, set_cons_succ]
                      refine AnyZ.step (i := 16) rfl (by kernel_rfl) (fun K hK => ?_)
                      go_simp
                      refine hK.out _ _ (fun h => ?_) ?_
                      · exact absurd (h.symm.trans (show _ = true by kernel_rfl)) (by simp)
                      clear hK K
                      try simp only [Act.put, setIfInBounds_toArray, set_cons_zero, set_cons_succ]
                      refine AnyZ.step (i := 17) rfl (by kernel_rfl) (fun K hK => ?_)
                      go_simp
                      refine hK.out _ _ (fun h => ?_) ?_
                      · exact absurd (h.symm.trans (show _ = true by kernel_rfl)) (by simp)
                      clear hK K
                      try simp only [Act.put, setIfInBounds_toArray, set_cons_zero, set_cons_succ]
                      refine AnyZ.done (by kernel_rfl) ?_ _
                      clear q9 qf9
                      go_wp2_with fail
                      go_roundw
                      case measure => simp [intOf]; omega
                      first | (refine (?_ : ∃ (_ : Nat), _)) | ((repeat apply Exists.intro); refine ⟨?_, rfl⟩)
                      exact ⟨k + 1, _, by omega, by go_num, HKA2, D9⟩
                    · obtain rfl : Z = 0 := by omega
                      have D8 : Hid (DaI w5 w8 dO m hd' (dF b r q (k + 1))) := hide ((HDK.out.extW EK8.out).fn (fun j _ => dF_same (by rw [HS.out]; exact HT1.out rfl) j))
                      have jz : ¬ (((0 : Nat) : Int) > 0) := by omega
                      go_wp2_with fail
                      go_roundw
                      case measure => simp [intOf]; omega
                      first | (refine (?_ : ∃ (_ : Nat), _)) | ((repeat apply Exists.intro); refine ⟨?_, rfl⟩)
                      exact ⟨k + 1, _, by omega, by go_num, HKA2, D8⟩
                  · have hin2 : okSp l ((P : Int), (Z : Int)) = false := by simpa using hin
                    have HE : Hid (rfmF b = rfErr 0 1) := hide (by rw [HRH.out, HBAD.out hin2]; rfl)
                    rw [hin2] at HW7
                    clear hin hin2
                    go_wp2_with fail
                    with_reducible refine HW7.out.mono ?_
                    rintro e w8 ⟨rfl, e8⟩
                    have E8 : Hid (Ext w5 w8) := hide (Ext.trans HDK.out.ext (Ext.trans E7.out e8))
                    have F8 := hide (F5.out.ext E8.out)
                    clear e8 z0 z1
                    have g0 : w8.cell? ⟨fb, 0, none⟩ = some (.int .i64 0) := F8.out.cell 0
                    have g1 : w8.cell? ⟨fb, 1, none⟩ = some (.slice none 0 0) := F8.out.cell 1
                    have gf0 := F8.out.frozen 0
                    have gf1 := F8.out.frozen 1
                    go_wp2_with fail
                    refine gen_bod fun wz hz => ?_
                    have FZ : Blk wz fb 24 #[.int .i64 0, .slice none 0 0] := by rw [hz]; exact (F8.out.set_ 0 _).set_ 1 _
                    have EZ : Ext w wz := by
                      have h1 := tw_ext' (Ext.trans EW5.out E8.out) (Tw.set_ w8 fb 0 (.int .i64 0) none) HFB.out
                      rw [hz]; exact tw_ext' h1 (Tw.set_ _ fb 1 (.slice none 0 0) none) HFB.out
                    have k0 : wz.cell? ⟨fb, 0, none⟩ = some (.int .i64 0) := FZ.cell 0
                    have k1 : wz.cell? ⟨fb, 1, none⟩ = some (.slice none 0 0) := FZ.cell 1
                    refine bodyPost_ret (v := .tuple #[.agg #[.int .i64 0, .slice none 0 0], .slice none 0 0, .int .i64 0, .int .i64 1]) (by simp [results, Try.results9, go_sem, k0, k1]) rfl ?_
                    exact RfG.err HE.out EZ
                · obtain rfl : k = pn := by omega
                  have HALL2 : Hid (∀ j, j < q + 1 → (spS (r.getD j default).tab).all (okSp l) = true) := hide (fun j hj => by
                    rcases Nat.lt_succ_iff_lt_or_eq.1 hj with h | h
                    · exact HALL.out j h
                    · subst h
                      rw [HS.out, List.all_eq_true]
                      intro x hx
                      obtain ⟨g, hg, rfl⟩ := List.getElem_of_mem hx
                      have := HKA.out g (by omega)
                      rw [List.getD_eq_getElem?_getD, List.getElem?_eq_getElem hg] at this
                      exact this)
                  have D8 : Hid (DaI w5 wr dO m hd' (dF b r (q + 1) 0)) := hide (HDK.out.fn (fun j _ => by rw [dF_next, HS.out, hsl]))
                  clear hlk hk
                  go_wp2_with fail
                  go_roundw
                  case measure => simp [intOf]; omega
                  first | (refine (?_ : ∃ (_ : Nat), _)) | ((repeat apply Exists.intro); refine ⟨?_, rfl⟩)
                  exact ⟨q + 1, _, by omega, by go_num, HALL2, D8⟩
            · obtain rfl : q = m := by omega
              have HE : Hid (rfmF b = ⟨sc, r.map trkOf, r.map fun t => spB b (spS t.tab), 0, 0⟩) := hide (by
                rw [HRH.out, if_pos]
                rw [List.all_eq_true]
                intro t ht
                obtain ⟨g, hg, rfl⟩ := List.getElem_of_mem ht
                have := HALL.out g (by have := HM.out; omega)
                rw [List.getD_eq_getElem?_getD, List.getElem?_eq_getElem hg] at this
                exact this)
              have EK : Hid (Ext wl wo) := hide (Ext.trans E5.out HD.out.ext)
              have RK := hide (HI.out.rd.blk.ext EK.out)
              have FK := hide (F5.out.ext HD.out.ext)
              have r0 : wo.cell? ⟨rb, 0, none⟩ = some (.int .i64 sc) := RK.out.cell 0
              have r1 : wo.cell? ⟨rb, 1, none⟩ = some (.slice tA q tc) := RK.out.cell 1
              have g0 : wo.cell? ⟨fb, 0, none⟩ = some (.int .i64 0) := FK.out.cell 0
              have g1 : wo.cell? ⟨fb, 1, none⟩ = some (.slice none 0 0) := FK.out.cell 1
              have gf0 := FK.out.frozen 0
              have gf1 := FK.out.frozen 1
              clear hlt hq
              have hml : mixL r q = r.map trkOf := by have := HM.out; rw [← this]; exact mixL_all r
              have RKI := hide (hml ▸ (HI.out.rd.ext EK.out).rd)
              have EWO : Hid (Ext w wo) := hide (Ext.trans EW5.out HD.out.ext)
              clear hml
              go_wp2_with fail
              refine gen_bod fun wz hz => ?_
              have hT1 := Tw.set_ wo fb 0 (.int .i64 sc) none
              have hT2 := Tw.set_ (wo.setCell ⟨fb, 0, none⟩ (.int .i64 sc)) fb 1 (.slice tA q tc) none
              have hTT : Tw wo wz fb none := by rw [hz]; exact hT1.trans hT2
              have FZ : Blk wz fb 24 #[.int .i64 sc, .slice tA q tc] := by rw [hz]; exact (FK.out.set_ 0 _).set_ 1 _
              have EZ : Ext w wz := tw_ext' EWO.out hTT HFB.out
              have k0 : wz.cell? ⟨fb, 0, none⟩ = some (.int .i64 sc) := FZ.cell 0
              have k1 : wz.cell? ⟨fb, 1, none⟩ = some (.slice tA q tc) := FZ.cell 1
              clear hz
              refine bodyPost_ret (v := .tuple #[.agg #[.int .i64 sc, .slice tA q tc], .slice (some ⟨dO, 0, none⟩) q q, .int .i64 0, .int .i64 0]) (by simp [results, Try.results9, go_sem, k0, k1]) rfl ?_
              rw [HE.out]
              refine ⟨EZ, tA, q, tc, hs', some ⟨dO, 0, none⟩, q, q, hd, rfl, ?_, ?_⟩
              · exact (RKI.out.lowTw hTT LRB.out.2).tks
              · refine HD.out.lowTw hTT (Nat.lt_of_lt_of_le HFB2.out E5W.out) _ (by rw [List.length_map]; exact HM.out) (fun j hj => ?_)
                unfold dF
                rw [if_pos hj, List.getD_eq_getElem?_getD, List.getElem?_map, List.getD_eq_getElem?_getD, List.getElem?_eq_getElem (by have := HM.out; omega)]; rfl
end Go.Proofs.Ytkbmgakehlmcnaa
