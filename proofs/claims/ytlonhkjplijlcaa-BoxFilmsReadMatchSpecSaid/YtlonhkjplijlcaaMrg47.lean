/- Walk: ReadFilm (reference). Conditions as stated. Printed by rflR.py. -/
import Derived.Test.YtlonhkjplijlcaaMrg45
import Derived.Test.YtlonhkjplijlcaaMrg46
import Derived.Test.YtlonhkjplijlcaaMrg36
namespace Go.Proofs.Ytlonhkjplijlcaa
open Go.RowKit
set_option linter.unusedVariables false in
set_option linter.unusedSimpArgs false in
set_option maxRecDepth 100000 in
set_option maxHeartbeats 32000000 in
theorem refReadFilm_any {A : Option Addr} {n c : Nat} {b : List UInt8} {w : World} (h : At w 1 e8 A n c b) :
    Calls Try.prog 11 #[.slice A n c] w (RfG w (rfmF b)) := by
  have HP := hide (fun (W : World) (hW : Ext w W) => refparse_any (h.ext hW))
  have H := hide h
  have hln := h.len
  have hbd := h.bound
  have HAL : Hid (0 < n → ∀ a, A = some a → a.block < w.heap.size) := hide (fun hn a ha => h.blk_lt len_e8 (by omega) hn a ha)
  have E0 := hide (Ext.alloc w (.cells #[.int .i64 0, .slice none 0 0] 24))
  have F0 := hide (Blk.new w 24 #[.int .i64 0, .slice none 0 0])
  clear h
  go_enter Try.func11, Try.ntmps11
  go_upto_region 1 with (fail)
  refine gen_wpC fun w0 h0 => ?_
  rw [← h0] at E0 F0
  obtain ⟨fb, hfb⟩ : ∃ fb, fb = w.heap.size := ⟨_, rfl⟩
  rw [← hfb] at F0 ⊢
  have f0 : w0.cell? ⟨fb, 0, none⟩ = some (.int .i64 0) := F0.out.cell 0
  have f1 : w0.cell? ⟨fb, 1, none⟩ = some (.slice none 0 0) := F0.out.cell 1
  have ff0 := F0.out.frozen 0
  have ff1 := F0.out.frozen 1
  have HFB : Hid (w.heap.size ≤ fb) := hide (by omega)
  have HFZ : Hid (fb < w0.heap.size) := hide F0.out.lt
  clear h0 hfb
  cases hpr : parseF b with
  | err a f =>
    have HE : Hid (rfmF b = rfErr (a : Int) f) := hide (by unfold rfmF; rw [hpr])
    have HF : (f != 0) = true := by
      unfold parseF at hpr
      split at hpr
      · cases hpr; rfl
      · exact parF_err hpr
    have HP0 := hide (HP.out w0 E0.out)
    rw [hpr] at HP0
    clear hpr
    go_wp2_with fail
    with_reducible refine HP0.out.mono ?_
    rintro e w1 ⟨e1, p1, _⟩
    obtain rfl := p1 _ _ rfl
    have E1 := hide e1
    have F1 := hide (F0.out.ext e1)
    have g0 : w1.cell? ⟨fb, 0, none⟩ = some (.int .i64 0) := F1.out.cell 0
    have g1 : w1.cell? ⟨fb, 1, none⟩ = some (.slice none 0 0) := F1.out.cell 1
    have gf0 := F1.out.frozen 0
    have gf1 := F1.out.frozen 1
    clear e1 p1 f0 f1 ff0 ff1
    go_wp2_with fail
    refine gen_bod fun wz hz => ?_
    have FZ : Blk wz fb 24 #[.int .i64 0, .slice none 0 0] := by rw [hz]; exact (F1.out.set_ 0 _).set_ 1 _
    have EZ : Ext w wz := by
      have h1 := tw_ext' (Ext.trans E0.out E1.out) (Tw.set_ w1 fb 0 (.int .i64 0) none) HFB.out
      rw [hz]; exact tw_ext' h1 (Tw.set_ _ fb 1 (.slice none 0 0) none) HFB.out
    have k0 : wz.cell? ⟨fb, 0, none⟩ = some (.int .i64 0) := FZ.cell 0
    have k1 : wz.cell? ⟨fb, 1, none⟩ = some (.slice none 0 0) := FZ.cell 1
    refine bodyPost_ret (v := .tuple #[.agg #[.int .i64 0, .slice none 0 0], .slice none 0 0, .int .i64 (a : Int), .int .i64 f]) (by simp [results, Try.results11, go_sem, k0, k1]) rfl ?_
    exact RfG.err HE.out EZ
  | ok l cc =>
    have HPL : Hid (b.length ≤ 1000000 ∧ parF b 0 b.length 0 0 = .ok l cc) := hide (by
      unfold parseF at hpr
      split at hpr
      · cases hpr
      · exact ⟨by omega, hpr⟩)
    have hb6 := HPL.out.1
    have HKIDS : Hid (∀ x ∈ l, x.kids.length ≤ 1000000) := hide (fun x hx => Nat.le_trans (parP_kids b _ 0 b.length 0 0 l cc HPL.out.2 (by omega) x hx) (by omega))
    have HWF3 : Hid (WfN b.length 3 l) := hide (parP_wf b b.length _ 0 b.length 0 0 l cc HPL.out.2 (Nat.le_refl _) 3)
    have HLL : Hid (l.length ≤ 1000000) := hide (by have := (parP_count b _ 0 b.length 0 0 l cc HPL.out.2 (by omega)).2; omega)
    have HLB : Hid (l.length ≤ b.length) := hide (by have := (parP_count b _ 0 b.length 0 0 l cc HPL.out.2 (by omega)).2; omega)
    have HPR := hide hpr
    have HP0 := hide (HP.out w0 E0.out)
    rw [hpr] at HP0
    clear hpr f0 f1 ff0 ff1
    go_wp2_with fail
    with_reducible refine HP0.out.mono ?_
    rintro e w1 ⟨e1, _, p1⟩
    obtain ⟨xA, xc, nA, nc, rfl, _, hnds⟩ := p1 _ _ rfl
    have E1 := hide e1
    have HND1 := hide hnds
    clear e1 p1 hnds
    go_upto_region 5 with (fail)
    refine gen_wpC fun w2 h2 => ?_
    obtain ⟨rb, hrb⟩ : ∃ rb, rb = w1.heap.size := ⟨_, rfl⟩
    rw [← hrb]
    have E2 : Hid (Ext w w2) := hide (by rw [h2]; exact Ext.trans E0.out (Ext.trans E1.out (Ext.alloc _ _)))
    have B2 : Hid (Blk w2 rb 85 (fiC (.slice A n c) 0 (.slice none 0 0) (.slice none 0 0) (.slice none 0 0) (-1))) := hide (by rw [h2, hrb]; exact Blk.new _ _ _)
    have LRB : Hid (w.heap.size < rb ∧ fb < rb) := hide (by have := E0.out.size; have := E1.out.size; have := HFZ.out; have := HFB.out; omega)
    have F2 : Hid (Blk w2 fb 24 #[.int .i64 0, .slice none 0 0]) := hide (by rw [h2]; exact (F0.out.ext E1.out).ext (Ext.alloc _ _))
    have HND2 : Hid (PlsAt w2 (fun k => k < rb) nA l.length nc l) := hide (by
      have e2 : Ext w1 w2 := by rw [h2]; exact Ext.alloc _ _
      exact HND1.out.good (fun k hk => e2.block k hk.2) (fun k hk => by omega))
    obtain ⟨ns, hns⟩ := pls_open HND2.out
    have HN2 := hide hns
    have HA2 := hide (fun (W : World) (hW : Below rb w2 W) => (H.out.ext (ext_below E2.out hW (Nat.le_of_lt LRB.out.1))))
    have I0 : Hid (FmI w2 w2 rb (.slice A n c) b l 0 none (.slice none 0 0) []) := hide
      ⟨rfl, Below.refl _ _, ⟨_, _, _, _, FiI.new B2.out (fun g hg => by cases hg), fun _ => ⟨rfl, rfl⟩⟩, Own.nil _ _ _ _ _, rfl, fun j hj => by simp at hj⟩
    clear h2 hrb hns
    obtain ⟨m, hm⟩ : ∃ m, l.length = m := ⟨_, rfl⟩
    have HM := hide hm
    rw [hm] at HN2 HLL ⊢
    clear hm
    go_wp2_with fail
    go_loopw [11, 12] (fun r11 ri wr => ∃ (k : Nat), ri = .int .i64 (k : Int) ∧ k ≤ m ∧ ((∃ (f : Option (Int × List TrR)) (dv : Value) (ds : List PlH), r11 = .bool f.isSome ∧ Hid (FmI w2 wr rb (.slice A n c) b l k f dv ds)) ∨ (∃ (a : Nat) (bb : Bool), r11 = .bool bb ∧ Hid (FmB w2 wr rb (.slice A n c) a ∧ topR b l = .bad a)))) (fun _ ri _ => m - (intOf ri).toNat)
    case atStart => exact ⟨0, rfl, by omega, .inl ⟨none, _, _, rfl, I0⟩⟩
    case round =>
      clear I0
      obtain ⟨k, rfl, hk, hst⟩ := hrel
      obtain ⟨wl, hwl⟩ : ∃ wl, wl = wr := ⟨_, rfl⟩
      subst hwl
      rcases hst with ⟨f, dv, ds, rfl, HI⟩ | ⟨a, bb, rfl, HB⟩
      · have HNO := hide (HN2.out.below HI.out.low)
        obtain ⟨tv, bv, hs, ts, hrd, hnil⟩ := HI.out.rd
        have RD := hide hrd
        have HNIL := hide hnil
        have x5 : wl.cell? ⟨rb, 5, none⟩ = some (.int .i64 (-1)) := hrd.blk.cell 5
        clear hrd hnil
        by_cases hlt : k < m
        · obtain ⟨oA, pA, rfl, _⟩ := HNO.out.at_.addr (by omega)
          have hd := HNO.out.hd k hlt
          have hat := HNO.out.at_
          obtain ⟨z, hz⟩ : ∃ z, l.getD k dN = z := ⟨_, rfl⟩
          obtain ⟨u, hu⟩ : ∃ u, ns.getD k default = u := ⟨_, rfl⟩
          rw [hz, hu] at hd
          have hwz := HWF3.out.at_ (i := k) (by have := HM.out; omega)
          rw [show l.getD k (.mk [] 0 0 0 0 []) = z from hz] at hwz
          obtain ⟨uk, ug, ud, ue, uA, un, uc⟩ := u
          have a0 : wl.cell? ⟨oA, pA + k * 5, none⟩ = some (.string ⟨uk.toArray⟩) := hat.cellK hlt default 0 _ (by rw [hu]; rfl)
          have a1 : wl.cell? ⟨oA, pA + k * 5 + 1, none⟩ = some (.int .i64 (ug : Int)) := hat.cellK hlt default 1 _ (by rw [hu]; rfl)
          have a2 : wl.cell? ⟨oA, pA + k * 5 + 2, none⟩ = some (.int .i64 (ud : Int)) := hat.cellK hlt default 2 _ (by rw [hu]; rfl)
          have a3 : wl.cell? ⟨oA, pA + k * 5 + 3, none⟩ = some (.int .i64 (ue : Int)) := hat.cellK hlt default 3 _ (by rw [hu]; rfl)
          have a4 : wl.cell? ⟨oA, pA + k * 5 + 4, none⟩ = some (.slice uA un uc) := hat.cellK hlt default 4 _ (by rw [hu]; rfl)
          have HUK : Hid (uk = z.kind) := hide hd.kind
          have HUG : Hid (ug = z.beg) := hide hd.beg
          have HUD : Hid (ud = z.dat) := hide hd.dat
          have HUE : Hid (ue = z.en) := hide hd.en
          have HZ := hide hz
          have HD := hide hd
          have HWZ := hide hwz.2.2
          have HKZ : Hid (z.kids.length ≤ 1000000) := hide (by rw [← hz]; exact HKIDS.out _ (by rw [List.getD_eq_getElem?_getD, List.getElem?_eq_getElem (by have := HM.out; omega)]; exact List.getElem_mem _))
          have i1 : (k : Int) < (m : Int) := by omega
          have i0 : (0 : Int) ≤ (k : Int) := by omega
          have i8 : IntKind.i64.wrap ((k : Int) + 1) = (k : Int) + 1 := by rw [IntKind.wrap_i64]; have := HLL.out; omega
          have HKM : Hid (k < l.length) := hide (by have := HM.out; omega)
          clear hd hat hz hu hwz
          by_cases hkf : uk = kFilm
          · subst hkf
            have hnd : Hid (z.kind ≠ kData) := hide (by rw [← HUK.out]; simp [kFilm, kData])
            cases f with
            | some g =>
              have HE := hide (topR_bad (topK_two HI.out.top HKM.out (by rw [HZ.out]; exact HUK.out.symm)) HKM.out)
              rw [HZ.out, ← HUG.out] at HE
              have HXB := hide (expect_bad ug RD.out.blk)
              go_wp2_with ((go_at_call 33; refine HXB.out.mono ?_); rintro e w5 ⟨rfl, p1, p2⟩; have HB1 := hide p1; have HT1 := hide p2; clear p1 p2)
              go_roundw
              case measure => simp [intOf]; omega
              first | (refine (?_ : ∃ (_ : Nat), _)) | ((repeat apply Exists.intro); refine ⟨?_, rfl⟩)
              exact ⟨k + 1, by go_num, by omega, .inr ⟨ug, true, rfl, hide ⟨⟨Below.chain HI.out.low (Below.ofTw HT1.out (Nat.le_of_lt RD.out.blk.lt) (Nat.le_refl _)), _, _, _, _, HB1.out⟩, HE.out⟩⟩⟩
            | none =>
              have HTF := hide (topK_film HI.out.top HKM.out (by rw [HZ.out]; exact HUK.out.symm))
              rw [HZ.out] at HTF
              have HXG := hide (expect_good (ug : Int) RD.out.blk)
              have hblk : Blk wl rb 85 (fiC (.slice A n c) 0 (.slice none 0 0) (.slice none 0 0) dv (-1)) := by
                obtain ⟨h1, h2⟩ := HNIL.out rfl
                have h3 := RD.out.blk
                rw [h1, h2] at h3
                exact h3
              have HWH : Hid (Calls Try.prog 34 #[.pointer (some ⟨rb, 0, none⟩), .agg #[.string ⟨kFilm.toArray⟩, .int .i64 (ug : Int), .int .i64 (ud : Int), .int .i64 (ue : Int), .slice uA un uc]] wl (FwG wl rb (.slice A n c) dv (filR b z))) := hide (by
                have h0 : 0 < n := by have := HLB.out; have := HKM.out; omega
                exact whole_any (y := ⟨kFilm, ug, ud, ue, uA, un, uc⟩) hblk HD.out (HA2.out wl HI.out.low) (fun q hq => Nat.lt_trans (HAL.out h0 q hq) LRB.out.1) HWZ.out hb6 HKZ.out (fun q hq => RD.out.dlt q hq))
              clear hblk
              cases hfr : filR b z with
              | bad a' =>
                have HE : Hid (topR b l = .bad a') := hide (topR_bad (k := k + 1) (by rw [HTF.out, hfr]; rfl) HKM.out)
                rw [hfr] at HWH
                clear hfr
                go_wp2_with (first | ((go_at_call 33; refine HXG.out.mono ?_); rintro e w' ⟨rfl, rfl⟩) | ((go_at_call 34; refine HWH.out.mono ?_); rintro e w5 ⟨rfl, g1, g2, _, g4⟩; obtain ⟨sc5, tv5, bv5, g5⟩ := g4 _ rfl; have G2 := hide g2; have G5 := hide g5; clear g1 g2 g4 g5))
                go_roundw
                case measure => simp [intOf]; omega
                first | (refine (?_ : ∃ (_ : Nat), _)) | ((repeat apply Exists.intro); refine ⟨?_, rfl⟩)
                exact ⟨k + 1, by go_num, by omega, .inr ⟨a', true, rfl, hide ⟨⟨Below.chain HI.out.low G2.out, _, _, _, _, G5.out⟩, HE.out⟩⟩⟩
              | ok g =>
                obtain ⟨sc, r⟩ := g
                have HTP : Hid (topK b l (k + 1) = .ok (some (sc, r))) := hide (by rw [HTF.out, hfr]; rfl)
                rw [hfr] at HWH
                clear hfr
                go_wp2_with (first | ((go_at_call 33; refine HXG.out.mono ?_); rintro e w' ⟨rfl, rfl⟩) | ((go_at_call 34; refine HWH.out.mono ?_); rintro e w5 ⟨rfl, g1, g2, g3, _⟩; obtain ⟨tv5, bv5, hs5, ts5, g5⟩ := g3 _ _ rfl; have G1 := hide g1; have G2 := hide g2; have G5 := hide g5; clear g1 g2 g3 g5))
                go_roundw
                case measure => simp [intOf]; omega
                first | (refine (?_ : ∃ (_ : Nat), _)) | ((repeat apply Exists.intro); refine ⟨?_, rfl⟩)
                exact ⟨k + 1, by go_num, by omega, .inl ⟨some (sc, r), dv, ds, rfl, hide (HI.out.data HKM.out (by rw [HZ.out]; exact hnd.out) HTP.out G2.out (HI.out.dat.keep (fun g cs hb => G1.out _ _ (by decide) (by decide) (by decide) _ hb)) ⟨_, _, _, _, G5.out, fun h => by cases h⟩)⟩⟩
          · have hne : (uk == [102, 105, 108, 109]) = false := by simpa using (show ¬ uk = [102, 105, 108, 109] from hkf)
            have HTP := hide (topK_skip HI.out.top HKM.out (by rw [HZ.out, ← HUK.out]; exact hkf))
            by_cases hkd : uk = kData
            · subst hkd
              have HKD : Hid (z.kind = kData) := hide HUK.out.symm
              obtain ⟨dA, dc, hdv, _⟩ := HI.out.dat.at_ len_ePl
              obtain ⟨dn, hdn⟩ : ∃ dn, ds.length = dn := ⟨_, rfl⟩
              rw [hdn] at hdv
              subst hdv
              have HDN := hide hdn
              have hdk : dn ≤ 1000000 := by
                have h1 := HI.out.len
                have h2 : (datN (l.take k)).length ≤ (l.take k).length := List.length_filter_le _ _
                rw [List.length_take] at h2
                have := HLL.out; have := HM.out; omega
              have x4 : wl.cell? ⟨rb, 4, none⟩ = some (.slice dA dn dc) := RD.out.blk.cell 4
              obtain ⟨p0_, hp0, hq0, hq1, hq2⟩ := info_parts Try.info87
              have S1 : Hid (ds.length + 1 ≤ maxLen) := hide (by unfold maxLen; omega)
              have S2 : Hid ((ds.length + 1) * 64 ≤ 140737488355328) := hide (by omega)
              have HS0 : Hid (wl.cell? ⟨rb, 4, none⟩ = some (.slice dA dn dc) ∧ wl.cell? ⟨oA, pA + k * 5, none⟩ = some (.string ⟨kData.toArray⟩) ∧ wl.cell? ⟨oA, pA + k * 5 + 1, none⟩ = some (.int .i64 (ug : Int)) ∧ wl.cell? ⟨oA, pA + k * 5 + 2, none⟩ = some (.int .i64 (ud : Int)) ∧ wl.cell? ⟨oA, pA + k * 5 + 3, none⟩ = some (.int .i64 (ue : Int)) ∧ wl.cell? ⟨oA, pA + k * 5 + 4, none⟩ = some (.slice uA un uc)) := hide ⟨x4, a0, a1, a2, a3, a4⟩
              have hdl : (dn : Int) < (dn : Int) + 1 := by omega
              have hdl0 : (0 : Int) ≤ (dn : Int) := by omega
              clear hdn hdk
              go_upto_region 15 with (fail)
              clear x4 x5 a0 a1 a2 a3 a4
              refine region_z (S := fun W => W.cell? ⟨rb, 4, none⟩ = some (.slice dA dn dc) ∧ W.cell? ⟨oA, pA + k * 5, none⟩ = some (.string ⟨kData.toArray⟩) ∧ W.cell? ⟨oA, pA + k * 5 + 1, none⟩ = some (.int .i64 (ug : Int)) ∧ W.cell? ⟨oA, pA + k * 5 + 2, none⟩ = some (.int .i64 (ud : Int)) ∧ W.cell? ⟨oA, pA + k * 5 + 3, none⟩ = some (.int .i64 (ue : Int)) ∧ W.cell? ⟨oA, pA + k * 5 + 4, none⟩ = some (.slice uA un uc)) 10 (by kernel_rfl) ?_
              refine AnyZ.takeE (i := 0) (d := 76) (oi := _) (v := ?_) rfl rfl rfl (by kernel_rfl) (by kernel_rfl) (by kernel_rfl) (by kernel_rfl) (by kernel_rfl) (by kernel_rfl) (fun _ _ _ h => h) (Or.inl ⟨by rfl, ?_⟩) ⟨(Ext.drew _).cell HS0.out.1, (Ext.drew _).cell HS0.out.2.1, (Ext.drew _).cell HS0.out.2.2.1, (Ext.drew _).cell HS0.out.2.2.2.1, (Ext.drew _).cell HS0.out.2.2.2.2.1, (Ext.drew _).cell HS0.out.2.2.2.2.2⟩ ?_
              rotate_left
              · intro W hW; obtain ⟨s1, s2, s3, s4, s5, s6⟩ := hW; first | (go_simp; done) | (go_simp; with_reducible rfl)
              try simp only [Act.put, List.setIfInBounds_toArray, List.set_cons_zero, List.set_cons_succ]
              refine AnyZ.takeE (i := 1) (d := 77) (oi := _) (v := ?_) rfl rfl rfl (by kernel_rfl) (by kernel_rfl) (by kernel_rfl) (by kernel_rfl) (by kernel_rfl) (by kernel_rfl) (fun _ _ _ h => h) (Or.inl ⟨by rfl, ?_⟩) ⟨(Ext.drew _).cell HS0.out.1, (Ext.drew _).cell HS0.out.2.1, (Ext.drew _).cell HS0.out.2.2.1, (Ext.drew _).cell HS0.out.2.2.2.1, (Ext.drew _).cell HS0.out.2.2.2.2.1, (Ext.drew _).cell HS0.out.2.2.2.2.2⟩ ?_
              rotate_left
              · intro W hW; obtain ⟨s1, s2, s3, s4, s5, s6⟩ := hW; first | (go_simp; done) | (go_simp; with_reducible rfl)
              try simp only [Act.put, List.setIfInBounds_toArray, List.set_cons_zero, List.set_cons_succ]
              refine AnyZ.takeE (i := 2) (d := 78) (oi := _) (v := ?_) rfl rfl rfl (by kernel_rfl) (by kernel_rfl) (by kernel_rfl) (by kernel_rfl) (by kernel_rfl) (by kernel_rfl) (fun _ _ _ h => h) (Or.inl ⟨by rfl, ?_⟩) ⟨(Ext.drew _).cell HS0.out.1, (Ext.drew _).cell HS0.out.2.1, (Ext.drew _).cell HS0.out.2.2.1, (Ext.drew _).cell HS0.out.2.2.2.1, (Ext.drew _).cell HS0.out.2.2.2.2.1, (Ext.drew _).cell HS0.out.2.2.2.2.2⟩ ?_
              rotate_left
              · intro W hW; obtain ⟨s1, s2, s3, s4, s5, s6⟩ := hW; first | (go_simp; done) | (go_simp; with_reducible rfl)
              try simp only [Act.put, List.setIfInBounds_toArray, List.set_cons_zero, List.set_cons_succ]
              refine AnyZ.takeE (i := 3) (d := 79) (oi := _) (v := ?_) rfl rfl rfl (by kernel_rfl) (by kernel_rfl) (by kernel_rfl) (by kernel_rfl) (by kernel_rfl) (by kernel_rfl) (fun _ _ _ h => h) (Or.inl ⟨by rfl, ?_⟩) ⟨(Ext.drew _).cell HS0.out.1, (Ext.drew _).cell HS0.out.2.1, (Ext.drew _).cell HS0.out.2.2.1, (Ext.drew _).cell HS0.out.2.2.2.1, (Ext.drew _).cell HS0.out.2.2.2.2.1, (Ext.drew _).cell HS0.out.2.2.2.2.2⟩ ?_
              rotate_left
              · intro W hW; obtain ⟨s1, s2, s3, s4, s5, s6⟩ := hW; first | (go_simp; done) | (go_simp; with_reducible rfl)
              try simp only [Act.put, List.setIfInBounds_toArray, List.set_cons_zero, List.set_cons_succ]
              refine AnyZ.takeE (i := 4) (d := 80) (oi := _) (v := ?_) rfl rfl rfl (by kernel_rfl) (by kernel_rfl) (by kernel_rfl) (by kernel_rfl) (by kernel_rfl) (by kernel_rfl) (fun _ _ _ h => h) (Or.inl ⟨by rfl, ?_⟩) ⟨(Ext.drew _).cell HS0.out.1, (Ext.drew _).cell HS0.out.2.1, (Ext.drew _).cell HS0.out.2.2.1, (Ext.drew _).cell HS0.out.2.2.2.1, (Ext.drew _).cell HS0.out.2.2.2.2.1, (Ext.drew _).cell HS0.out.2.2.2.2.2⟩ ?_
              rotate_left
              · intro W hW; obtain ⟨s1, s2, s3, s4, s5, s6⟩ := hW; first | (go_simp; done) | (go_simp; with_reducible rfl)
              try simp only [Act.put, List.setIfInBounds_toArray, List.set_cons_zero, List.set_cons_succ]
              refine AnyZ.takeE (i := 5) (d := 81) (oi := _) (v := ?_) rfl rfl rfl (by kernel_rfl) (by kernel_rfl) (by kernel_rfl) (by kernel_rfl) (by kernel_rfl) (by kernel_rfl) (fun _ _ _ h => h) (Or.inl ⟨by rfl, ?_⟩) ⟨(Ext.drew _).cell HS0.out.1, (Ext.drew _).cell HS0.out.2.1, (Ext.drew _).cell HS0.out.2.2.1, (Ext.drew _).cell HS0.out.2.2.2.1, (Ext.drew _).cell HS0.out.2.2.2.2.1, (Ext.drew _).cell HS0.out.2.2.2.2.2⟩ ?_
              rotate_left
              · intro W hW; obtain ⟨s1, s2, s3, s4, s5, s6⟩ := hW; first | (go_simp; done) | (go_simp; with_reducible rfl)
              try simp only [Act.put, List.setIfInBounds_toArray, List.set_cons_zero, List.set_cons_succ]
              refine AnyZ.takeE (i := 6) (d := 82) (oi := _) (v := ?_) rfl rfl rfl (by kernel_rfl) (by kernel_rfl) (by kernel_rfl) (by kernel_rfl) (by kernel_rfl) (by kernel_rfl) (fun _ _ _ h => h) (Or.inl ⟨by rfl, ?_⟩) ⟨(Ext.drew _).cell HS0.out.1, (Ext.drew _).cell HS0.out.2.1, (Ext.drew _).cell HS0.out.2.2.1, (Ext.drew _).cell HS0.out.2.2.2.1, (Ext.drew _).cell HS0.out.2.2.2.2.1, (Ext.drew _).cell HS0.out.2.2.2.2.2⟩ ?_
              rotate_left
              · intro W hW; obtain ⟨s1, s2, s3, s4, s5, s6⟩ := hW; first | (go_simp; done) | (go_simp; with_reducible rfl)
              try simp only [Act.put, List.setIfInBounds_toArray, List.set_cons_zero, List.set_cons_succ]
              refine AnyZ.takeE (i := 7) (d := 83) (oi := _) (v := ?_) rfl rfl rfl (by kernel_rfl) (by kernel_rfl) (by kernel_rfl) (by kernel_rfl) (by kernel_rfl) (by kernel_rfl) (fun _ _ _ h => h) (Or.inl ⟨by rfl, ?_⟩) ⟨(Ext.drew _).cell HS0.out.1, (Ext.drew _).cell HS0.out.2.1, (Ext.drew _).cell HS0.out.2.2.1, (Ext.drew _).cell HS0.out.2.2.2.1, (Ext.drew _).cell HS0.out.2.2.2.2.1, (Ext.drew _).cell HS0.out.2.2.2.2.2⟩ ?_
              rotate_left
              · intro W hW; obtain ⟨s1, s2, s3, s4, s5, s6⟩ := hW; first | (go_simp; done) | (go_simp; with_reducible rfl)
              try simp only [Act.put, List.setIfInBounds_toArray, List.set_cons_zero, List.set_cons_succ]
              refine AnyZ.takeE (i := 8) (d := 84) (oi := _) (v := ?_) rfl rfl rfl (by kernel_rfl) (by kernel_rfl) (by kernel_rfl) (by kernel_rfl) (by kernel_rfl) (by kernel_rfl) (fun _ _ _ h => h) (Or.inl ⟨by rfl, ?_⟩) ⟨(Ext.drew _).cell HS0.out.1, (Ext.drew _).cell HS0.out.2.1, (Ext.drew _).cell HS0.out.2.2.1, (Ext.drew _).cell HS0.out.2.2.2.1, (Ext.drew _).cell HS0.out.2.2.2.2.1, (Ext.drew _).cell HS0.out.2.2.2.2.2⟩ ?_
              rotate_left
              · intro W hW; obtain ⟨s1, s2, s3, s4, s5, s6⟩ := hW; first | (go_simp; done) | (go_simp; with_reducible rfl)
              try simp only [Act.put, List.setIfInBounds_toArray, List.set_cons_zero, List.set_cons_succ]
              refine AnyZ.step (i := 9) rfl (by kernel_rfl) (fun K hK => ?_)
              go_simp
              refine gen_hkT hK fun w6 hw6 => ?_
              have E6 : Hid (Ext wl w6) := hide (by rw [hw6]; exact Ext.trans (Ext.drew _) (Ext.alloc _ _))
              have A6 : Hid (At w6 5 ePl (some ⟨wl.drew.heap.size, 0, none⟩) 1 1 [(⟨[], 0, 0, 0, none, 0, 0⟩ : PlH)]) := hide (by rw [hw6]; exact At.newE (enc := ePl) wl.drew _ _ _ rfl)
              refine ⟨fun h => ⟨E6.out.cell HS0.out.1, E6.out.cell HS0.out.2.1, E6.out.cell HS0.out.2.2.1, E6.out.cell HS0.out.2.2.2.1, E6.out.cell HS0.out.2.2.2.2.1, E6.out.cell HS0.out.2.2.2.2.2⟩, ?_⟩
              clear hK K hw6
              try simp only [Act.put, List.setIfInBounds_toArray, List.set_cons_zero, List.set_cons_succ]
              refine AnyZ.step (i := 10) rfl (by kernel_rfl) (fun K hK => ?_)
              have S3 : Hid (rb + 1 ≤ w6.heap.size) := hide (by have := RD.out.blk.lt; have := E6.out.size; omega)
              refine step_append_at rfl _ _ 80 rfl (rb + 1) 87 p0_ _ 64 Try.underlying80 hp0 hq0 hq1 hq2 rfl (by omega) len_ePl one_ePl _ ds (by rfl) (HI.out.dat.ext E6.out) (some ⟨wl.drew.heap.size, 0, none⟩) 1 1 _ (by rfl) A6.out S1.out S2.out S3.out ?_
              intro v7 w7 o7 g7 _ r7
              obtain ⟨A7, c7, hv7, _⟩ := o7.at_ len_ePl
              have hl7 : (ds ++ [(⟨[], 0, 0, 0, none, 0, 0⟩ : PlH)]).length = dn + 1 := by rw [List.length_append, HDN.out]; rfl
              rw [hl7] at hv7
              subst hv7
              obtain ⟨g, rfl, _⟩ := o7.where_ (by omega) hl7
              have O7 := hide o7
              have G7 := hide g7
              have RR7 := hide r7
              have hRB := RD.out.blk.ext E6.out
              have HAP := HI.out.dat.ext E6.out
              have B7 : Hid (Blk w7 rb 85 (fiC (.slice A n c) (scF f) tv bv (.slice dA dn dc) (-1))) := hide ((g7.block rb hRB.lt (fun e => HAP.apartB hRB (by decide) e.symm)).trans hRB)
              clear o7 g7 r7 hl7 hRB HAP
              refine hK.out _ _ (fun h => ?_) ?_
              · exact absurd (h.symm.trans (show _ = true by kernel_rfl)) (by simp)
              clear hK K
              try simp only [Act.put, List.setIfInBounds_toArray, List.set_cons_zero, List.set_cons_succ]
              refine AnyZ.takeZE (i := 11) (d := 87) (oi := _) (v := ?_) rfl rfl (by kernel_rfl) (by kernel_rfl) (by kernel_rfl) (by kernel_rfl) (by kernel_rfl) (fun _ _ _ h => h) (Or.inl ⟨by rfl, ?_⟩) ?_
              rotate_left
              · intro W hW; first | (go_simp; done) | (go_simp; with_reducible rfl)
              try simp only [Act.put, List.setIfInBounds_toArray, List.set_cons_zero, List.set_cons_succ]
              refine AnyZ.takeZE (i := 13) (d := 88) (oi := _) (v := ?_) rfl rfl (by kernel_rfl) (by kernel_rfl) (by kernel_rfl) (by kernel_rfl) (by kernel_rfl) (fun _ _ _ h => h) (Or.inl ⟨by rfl, ?_⟩) ?_
              rotate_left
              · intro W hW; first | (go_simp; done) | (go_simp; with_reducible rfl)
              try simp only [Act.put, List.setIfInBounds_toArray, List.set_cons_zero, List.set_cons_succ]
              refine AnyZ.takeZE (i := 14) (d := 89) (oi := _) (v := ?_) rfl rfl (by kernel_rfl) (by kernel_rfl) (by kernel_rfl) (by kernel_rfl) (by kernel_rfl) (fun _ _ _ h => h) (Or.inl ⟨by rfl, ?_⟩) ?_
              rotate_left
              · intro W hW; first | (go_simp; done) | (go_simp; with_reducible rfl)
              try simp only [Act.put, List.setIfInBounds_toArray, List.set_cons_zero, List.set_cons_succ]
              refine AnyZ.many (i := 12) (r := [15]) (by kernel_rfl) (AllZ.cons rfl (fun K hK => ?_) (AllZ.cons rfl (fun K hK => ?_) trivial))
              · skip
                have e0 : w7.cell? ⟨g, dn * 5, none⟩ = some (.string ⟨([] : List UInt8).toArray⟩) := (O7.out.lastCells len_ePl (i := 0) (u := .string ⟨([] : List UInt8).toArray⟩) rfl).1
                have ef0 : w7.frozen? ⟨g, dn * 5, none⟩ = false := by obtain ⟨cx, hcx⟩ := O7.out.blkOf; exact hcx.frozen _
                have e1 : w7.cell? ⟨g, dn * 5 + 1, none⟩ = some (.int .i64 ((0 : Nat) : Int)) := (O7.out.lastCells len_ePl (i := 1) (u := .int .i64 ((0 : Nat) : Int)) rfl).1
                have ef1 : w7.frozen? ⟨g, dn * 5 + 1, none⟩ = false := by obtain ⟨cx, hcx⟩ := O7.out.blkOf; exact hcx.frozen _
                have e2 : w7.cell? ⟨g, dn * 5 + 2, none⟩ = some (.int .i64 ((0 : Nat) : Int)) := (O7.out.lastCells len_ePl (i := 2) (u := .int .i64 ((0 : Nat) : Int)) rfl).1
                have ef2 : w7.frozen? ⟨g, dn * 5 + 2, none⟩ = false := by obtain ⟨cx, hcx⟩ := O7.out.blkOf; exact hcx.frozen _
                have e3 : w7.cell? ⟨g, dn * 5 + 3, none⟩ = some (.int .i64 ((0 : Nat) : Int)) := (O7.out.lastCells len_ePl (i := 3) (u := .int .i64 ((0 : Nat) : Int)) rfl).1
                have ef3 : w7.frozen? ⟨g, dn * 5 + 3, none⟩ = false := by obtain ⟨cx, hcx⟩ := O7.out.blkOf; exact hcx.frozen _
                have e4 : w7.cell? ⟨g, dn * 5 + 4, none⟩ = some (.slice none 0 0) := (O7.out.lastCells len_ePl (i := 4) (u := .slice none 0 0) rfl).1
                have ef4 : w7.frozen? ⟨g, dn * 5 + 4, none⟩ = false := by obtain ⟨cx, hcx⟩ := O7.out.blkOf; exact hcx.frozen _
                go_simp
                refine hK.out _ _ (fun h => ?_) ?_
                · exact absurd (h.symm.trans (show _ = true by kernel_rfl)) (by simp)
                clear hK K e0 e1 e2 e3 e4 ef0 ef1 ef2 ef3 ef4
                obtain ⟨cg, hcg⟩ := O7.out.blkOf
                have hB5 := Blk.off B7.out hcg (W5.tw w7 g dn (⟨kData, ug, ud, ue, uA, un, uc⟩ : PlH)) (by decide)
                have b4 : (W5 w7 g dn (⟨kData, ug, ud, ue, uA, un, uc⟩ : PlH)).cell? ⟨rb, 4, none⟩ = some (.slice dA dn dc) := hB5.cell 4
                have bf := hB5.frozen 4
                clear hB5 hcg
                try simp only [Act.put, List.setIfInBounds_toArray, List.set_cons_zero, List.set_cons_succ]
                refine AnyZ.step (i := 15) rfl (by kernel_rfl) (fun K hK => ?_)
                go_simp
                refine hK.out _ _ (fun h => ?_) ?_
                · exact absurd (h.symm.trans (show _ = true by kernel_rfl)) (by simp)
                clear hK K b4 bf
                try simp only [Act.put, List.setIfInBounds_toArray, List.set_cons_zero, List.set_cons_succ]
                refine AnyZ.done (by kernel_rfl) ?_ _
                have HEND := hide (endA (⟨kData, ug, ud, ue, uA, un, uc⟩ : PlH) B7.out O7.out)
                obtain ⟨X, hX⟩ : ∃ X, X = (W5 w7 g dn (⟨kData, ug, ud, ue, uA, un, uc⟩ : PlH)).setCell ⟨rb, 4, none⟩ (.slice (some ⟨g, 0, none⟩) (dn + 1) c7) := ⟨_, rfl⟩
                skip
                rw [← hX] at HEND ⊢
                clear hX
                go_wp2_with fail
                go_roundw
                case measure => simp [intOf]; omega
                first | (refine (?_ : ∃ (_ : Nat), _)) | ((repeat apply Exists.intro); refine ⟨?_, rfl⟩)
                exact ⟨k + 1, by go_num, by omega, .inl ⟨f, _, _, rfl, hide (HI.out.more HKM.out (by rw [HZ.out]; exact HKD.out) HTP.out RD.out HNIL.out E6.out G7.out RR7.out HEND.out (by rw [HZ.out]; exact ⟨HUD.out, HUE.out⟩))⟩⟩
              · skip
                have b4 : w7.cell? ⟨rb, 4, none⟩ = some (.slice dA dn dc) := B7.out.cell 4
                have bf := B7.out.frozen 4
                go_simp
                refine hK.out _ _ (fun h => ?_) ?_
                · exact absurd (h.symm.trans (show _ = true by kernel_rfl)) (by simp)
                clear hK K b4 bf
                have hO1 := O7.out.tw (Tw.set_ w7 rb 4 (.slice (some ⟨g, 0, none⟩) (dn + 1) c7) none) (O7.out.apartB B7.out (by decide)) (by simp)
                obtain ⟨w8, hw8⟩ : ∃ w8, w8 = w7.setCell ⟨rb, 4, none⟩ (.slice (some ⟨g, 0, none⟩) (dn + 1) c7) := ⟨_, rfl⟩
                rw [← hw8] at hO1 ⊢
                have HW8 := hide hw8
                clear hw8
                have e0 : w8.cell? ⟨g, dn * 5, none⟩ = some (.string ⟨([] : List UInt8).toArray⟩) := (hO1.lastCells len_ePl (i := 0) (u := .string ⟨([] : List UInt8).toArray⟩) rfl).1
                have ef0 : w8.frozen? ⟨g, dn * 5, none⟩ = false := by obtain ⟨cx, hcx⟩ := hO1.blkOf; exact hcx.frozen _
                have e1 : w8.cell? ⟨g, dn * 5 + 1, none⟩ = some (.int .i64 ((0 : Nat) : Int)) := (hO1.lastCells len_ePl (i := 1) (u := .int .i64 ((0 : Nat) : Int)) rfl).1
                have ef1 : w8.frozen? ⟨g, dn * 5 + 1, none⟩ = false := by obtain ⟨cx, hcx⟩ := hO1.blkOf; exact hcx.frozen _
                have e2 : w8.cell? ⟨g, dn * 5 + 2, none⟩ = some (.int .i64 ((0 : Nat) : Int)) := (hO1.lastCells len_ePl (i := 2) (u := .int .i64 ((0 : Nat) : Int)) rfl).1
                have ef2 : w8.frozen? ⟨g, dn * 5 + 2, none⟩ = false := by obtain ⟨cx, hcx⟩ := hO1.blkOf; exact hcx.frozen _
                have e3 : w8.cell? ⟨g, dn * 5 + 3, none⟩ = some (.int .i64 ((0 : Nat) : Int)) := (hO1.lastCells len_ePl (i := 3) (u := .int .i64 ((0 : Nat) : Int)) rfl).1
                have ef3 : w8.frozen? ⟨g, dn * 5 + 3, none⟩ = false := by obtain ⟨cx, hcx⟩ := hO1.blkOf; exact hcx.frozen _
                have e4 : w8.cell? ⟨g, dn * 5 + 4, none⟩ = some (.slice none 0 0) := (hO1.lastCells len_ePl (i := 4) (u := .slice none 0 0) rfl).1
                have ef4 : w8.frozen? ⟨g, dn * 5 + 4, none⟩ = false := by obtain ⟨cx, hcx⟩ := hO1.blkOf; exact hcx.frozen _
                try simp only [Act.put, List.setIfInBounds_toArray, List.set_cons_zero, List.set_cons_succ]
                refine AnyZ.step (i := 12) rfl (by kernel_rfl) (fun K hK => ?_)
                go_simp
                refine hK.out _ _ (fun h => ?_) ?_
                · exact absurd (h.symm.trans (show _ = true by kernel_rfl)) (by simp)
                clear hK K e0 e1 e2 e3 e4 ef0 ef1 ef2 ef3 ef4 hO1
                have hw8 := HW8.out
                clear HW8
                subst hw8
                try simp only [Act.put, List.setIfInBounds_toArray, List.set_cons_zero, List.set_cons_succ]
                refine AnyZ.done (by kernel_rfl) ?_ _
                have HEND := hide (endB (⟨kData, ug, ud, ue, uA, un, uc⟩ : PlH) B7.out O7.out)
                obtain ⟨X, hX⟩ : ∃ X, X = W5 (w7.setCell ⟨rb, 4, none⟩ (.slice (some ⟨g, 0, none⟩) (dn + 1) c7)) g dn (⟨kData, ug, ud, ue, uA, un, uc⟩ : PlH) := ⟨_, rfl⟩
                unfold W5 at HEND hX
                rw [← hX] at HEND ⊢
                clear hX
                go_wp2_with fail
                go_roundw
                case measure => simp [intOf]; omega
                first | (refine (?_ : ∃ (_ : Nat), _)) | ((repeat apply Exists.intro); refine ⟨?_, rfl⟩)
                exact ⟨k + 1, by go_num, by omega, .inl ⟨f, _, _, rfl, hide (HI.out.more HKM.out (by rw [HZ.out]; exact HKD.out) HTP.out RD.out HNIL.out E6.out G7.out RR7.out HEND.out (by rw [HZ.out]; exact ⟨HUD.out, HUE.out⟩))⟩⟩
            · have hne2 : (uk == [100, 97, 116, 97]) = false := by simpa using (show ¬ uk = [100, 97, 116, 97] from hkd)
              go_wp2_with fail
              go_roundw
              case measure => simp [intOf]; omega
              first | (refine (?_ : ∃ (_ : Nat), _)) | ((repeat apply Exists.intro); refine ⟨?_, rfl⟩)
              exact ⟨k + 1, by go_num, by omega, .inl ⟨f, dv, ds, rfl, hide (HI.out.data HKM.out (by rw [HZ.out, ← HUK.out]; exact hkd) HTP.out (Below.refl _ _) HI.out.dat HI.out.rd)⟩⟩
        · obtain rfl : k = m := by omega
          have i1 : ¬ (k : Int) < (k : Int) := by omega
          have EQ0 : Hid (Ext w wl) := hide (ext_below E2.out HI.out.low (Nat.le_of_lt LRB.out.1))
          have FQ0 : Hid (Blk wl fb 24 #[.int .i64 0, .slice none 0 0]) := hide ((HI.out.low.block fb LRB.out.2).trans F2.out)
          cases f with
          | none =>
            have htp := HI.out.top
            have htr : topR b l = .bad b.length := by unfold topR; rw [HM.out, htp]; rfl
            have HE : Hid (rfmF b = rfErr (b.length : Int) 10) := hide (by unfold rfmF; rw [HPR.out]; simp only; rw [htr])
            have HXB := hide (expect_bad b.length RD.out.blk)
            rw [hln] at HXB HE
            clear htp htr hlt hk
            go_wp2_with ((go_at_call 33; refine HXB.out.mono ?_); rintro e wq ⟨rfl, p1, p2⟩; have BK := hide p1; have HT1 := hide p2; have EQ : Hid (Ext w wq) := hide (tw_ext' EQ0.out p2 (Nat.le_of_lt LRB.out.1)); have FQ := hide (Blk.off FQ0.out RD.out.blk p2 (by decide)); have c5 : wq.cell? ⟨rb, 5, none⟩ = some (.int .i64 (n : Int)) := p1.cell 5; have hge : (n : Int) ≥ 0 := (by omega); have hge2 : (0 : Int) ≤ (n : Int) := (by omega); clear p1 p2)
            have g0 : wq.cell? ⟨fb, 0, none⟩ = some (.int .i64 0) := FQ.out.cell 0
            have g1 : wq.cell? ⟨fb, 1, none⟩ = some (.slice none 0 0) := FQ.out.cell 1
            have gf0 := FQ.out.frozen 0
            have gf1 := FQ.out.frozen 1
            have d3 : ∀ u, (wq.drew.setCell ⟨fb, 0, none⟩ u).cell? ⟨rb, 5, none⟩ = some (.int .i64 (n : Int)) := fun u => (Blk.off (BK.out.ext (Ext.drew _)) (FQ.out.ext (Ext.drew _)) (Tw.set_ _ fb 0 u none) (by decide)).cell 5
            have d4 : ∀ u v, ((wq.drew.setCell ⟨fb, 0, none⟩ u).setCell ⟨fb, 1, none⟩ v).cell? ⟨rb, 5, none⟩ = some (.int .i64 (n : Int)) := fun u v => (Blk.off (Blk.off (BK.out.ext (Ext.drew _)) (FQ.out.ext (Ext.drew _)) (Tw.set_ _ fb 0 u none) (by decide)) ((FQ.out.ext (Ext.drew _)).set_ 0 u) (Tw.set_ _ fb 1 v none) (by decide)).cell 5
            go_region
            go_wp2_with fail
            refine gen_bod fun wz hz => ?_
            have FZ : Blk wz fb 24 #[.int .i64 0, .slice none 0 0] := by rw [hz]; exact ((FQ.out.ext (Ext.drew _)).set_ 0 _).set_ 1 _
            have EZ : Ext w wz := by
              have h1 := tw_ext' (Ext.trans EQ.out (Ext.drew _)) (Tw.set_ wq.drew fb 0 (.int .i64 0) none) HFB.out
              rw [hz]; exact tw_ext' h1 (Tw.set_ _ fb 1 (.slice none 0 0) none) HFB.out
            have k0 : wz.cell? ⟨fb, 0, none⟩ = some (.int .i64 0) := FZ.cell 0
            have k1 : wz.cell? ⟨fb, 1, none⟩ = some (.slice none 0 0) := FZ.cell 1
            refine bodyPost_ret (v := .tuple #[.agg #[.int .i64 0, .slice none 0 0], .slice none 0 0, .int .i64 (n : Int), .int .i64 10]) (by simp [results, Try.results11, go_sem, k0, k1]) rfl ?_
            exact RfG.err HE.out EZ
          | some g =>
            obtain ⟨sc, r⟩ := g
            have hds := HI.out.dts
            have hdl := HI.out.len
            rw [show l.take k = l from by rw [← HM.out, List.take_length]] at hds hdl
            have htr : topR b l = .ok (sc, r) := by have htp := HI.out.top; unfold topR; rw [HM.out, htp]; rfl
            have HRF : Hid (rfmF b = if firstF (fun i => expF (r.getD i default).tab) r.length ≠ 0 then rfErr 0 (firstF (fun i => expF (r.getD i default).tab) r.length)
              else if filF sc (r.map trkOf) ≠ 0 then rfErr 0 (filF sc (r.map trkOf))
              else if (r.all fun t => (spS t.tab).all (okSp l)) = true then ⟨sc, r.map trkOf, r.map fun t => spB b (spS t.tab), 0, 0⟩ else rfErr 0 1) := hide (by unfold rfmF; rw [HPR.out]; simp only; rw [htr])
            obtain ⟨hok, hrl⟩ := topR_okR HPL.out.1 HKIDS.out htr
            have hrl : r.length ≤ 1000000 := hrl
            have HOK : Hid (OkR b r) := hide hok
            have HXG := hide (expect_good (n : Int) RD.out.blk)
            obtain ⟨dA, dc, hdv, _⟩ := HI.out.dat.at_ len_ePl
            obtain ⟨dn, hdn⟩ : ∃ dn, ds.length = dn := ⟨_, rfl⟩
            rw [hdn] at hdv hds hdl
            subst hdv
            have HDS := hide hds
            have HDL := hide hdl
            have HDAT := hide HI.out.dat
            have HLOW := hide HI.out.low
            obtain ⟨M, hMM⟩ : ∃ M, r.length = M := ⟨_, rfl⟩
            have hlb : ts.length = M := by have h9 := RD.out.lenB; rw [show rF (some (sc, r)) = r from rfl, List.length_map] at h9; omega
            have hlh : hs.length = M := by have h9 := RD.out.len; rw [show rF (some (sc, r)) = r from rfl, List.length_map] at h9; omega
            obtain ⟨bA, bc, hbv, _⟩ := RD.out.tab.at_ len_eTb
            rw [hlb] at hbv
            subst hbv
            obtain ⟨tA, tc, htv, _⟩ := RD.out.trk.at_ len_eTk
            rw [hlh] at htv
            subst htv
            have HMM := hide hMM
            rw [hMM] at hrl
            have RD2 : Hid (FiI wl rb (.slice A n c) sc (.slice tA M tc) (.slice bA M bc) (.slice dA dn dc) (-1) hs (r.map trk0) ts (r.map TrR.tab)) := hide RD.out
            have I2 : Hid (ExF wl wl rb (.slice A n c) (.slice dA dn dc) sc (.slice tA M tc) (.slice bA M bc) r 0 (.slice none 0 0) hs ts [] ds) := hide
              ⟨by rw [mixL_zero]; exact FiN.of RD2.out (Ext.refl _) (fun q hq => by cases hq), HDAT.out, Own.nil _ _ _ _ _, rfl, fun j hj => by omega, Below.refl _ _⟩
            clear hok htr hds hdl hdn hlb hlh hMM hlt hk HI HNIL HNO
            go_wp2_with ((go_at_call 33; refine HXG.out.mono ?_); rintro e w' ⟨rfl, rfl⟩)
            clear x5
            go_loopw [13, 14] (fun r13 ri wr => ∃ (i : Nat) (hs' : List TrkH) (hp : List (Option Addr × Nat × Nat)), i ≤ M ∧ ri = .int .i64 (i : Int) ∧ Hid (∀ j, j < i → expF (r.getD j default).tab = 0) ∧ Hid (ExF wl wr rb (.slice A n c) (.slice dA dn dc) sc (.slice tA M tc) (.slice bA M bc) r i r13 hs' ts hp ds)) (fun _ ri _ => M - (intOf ri).toNat)
            case atStart => exact ⟨0, hs, [], by omega, rfl, hide (fun j hj => by omega), I2⟩
            case round =>
              clear I2
              obtain ⟨i, hs', hp, hi, rfl, HA, HI⟩ := hrel
              have y3 : wr.cell? ⟨rb, 3, none⟩ = some (.slice bA M bc) := HI.out.rd.blk.cell 3
              have y2 : wr.cell? ⟨rb, 2, none⟩ = some (.slice tA M tc) := HI.out.rd.blk.cell 2
              have y1 : wr.cell? ⟨rb, 1, none⟩ = some (.int .i64 sc) := HI.out.rd.blk.cell 1
              by_cases hlt : i < M
              · have hlb : ts.length = M := by have h9 := HI.out.rd.lenB; rw [List.length_map, HMM.out] at h9; exact h9
                have hlh : hs'.length = M := by have h9 := HI.out.rd.len; unfold mixL at h9; rw [List.length_append, List.length_map, List.length_map, List.length_take, List.length_drop, HMM.out] at h9; omega
                obtain ⟨bO, rfl, _⟩ := HI.out.rd.tab.where_ (by omega) hlb
                obtain ⟨tO, rfl, _⟩ := HI.out.rd.trk.where_ (by omega) hlh
                obtain ⟨y, hy⟩ : ∃ y, ts.getD i default = y := ⟨_, rfl⟩
                obtain ⟨t, ht⟩ : ∃ t, (r.getD i default).tab = t := ⟨_, rfl⟩
                have hat := HI.out.rd.tab.atS len_eTb
                have tok : ∃ G, TbOk wr G y t := by
                  obtain ⟨_, _, _, _, _, G, _, _, g3⟩ := HI.out.rd
                  have e1 : ts[i]? = some y := by rw [← hy, List.getD_eq_getElem?_getD, List.getElem?_eq_getElem (by omega)]; rfl
                  have e2 : (r.map TrR.tab)[i]? = some t := by rw [← ht, List.getElem?_map, List.getD_eq_getElem?_getD, List.getElem?_eq_getElem (by have := HMM.out; omega)]; rfl
                  exact ⟨G, g3 i y t e1 e2⟩
                obtain ⟨G, tok⟩ := tok
                have hfw : TbFew t := by
                  rw [← ht]
                  exact HOK.out.tab _ (by rw [List.getD_eq_getElem?_getD, List.getElem?_eq_getElem (by have := HMM.out; omega)]; exact List.getElem_mem _)
                have hsz : TabSz y.sn y.hn y.zn y.kn y.cn y.pn := ⟨by rw [← tok.at_.steps.len]; have := hfw.s; omega, by rw [← tok.at_.shifts.len]; have := hfw.h; omega, by rw [← tok.at_.sizes.len]; have := hfw.z; omega, by rw [← tok.at_.keys.len]; have := hfw.k; omega, by rw [← tok.at_.chunks.len]; have := hfw.c; omega, by rw [← tok.at_.places.len]; have := hfw.p; omega⟩
                have HEX := hide (refExpand_own tok.at_ hsz)
                have hst := tok.st
                have HT := hide ht
                have HFS := hide (fun (hn : expF t ≠ 0) => (firstF_at (g := fun i => expF (r.getD i default).tab) HA.out (by rw [ht]; exact hn) (n := r.length) (by have := HMM.out; omega)))
                obtain ⟨y0, ysA, ysn, ysc, yhA, yhn, yhc, yzA, yzn, yzc, ykA, ykn, ykc, ycA, ycn, ycc, ypA, ypn, ypc⟩ := y
                have hst : y0 = t.start := hst
                subst hst
                have a0 : wr.cell? ⟨bO, i * 7, none⟩ = some (.int .i64 t.start) := by simpa using hat.cellK hlt default 0 _ (by rw [hy]; rfl)
                have a1 : wr.cell? ⟨bO, i * 7 + 1, none⟩ = some (.slice ysA ysn ysc) := by simpa using hat.cellK hlt default 1 _ (by rw [hy]; rfl)
                have a2 : wr.cell? ⟨bO, i * 7 + 2, none⟩ = some (.slice yhA yhn yhc) := by simpa using hat.cellK hlt default 2 _ (by rw [hy]; rfl)
                have a3 : wr.cell? ⟨bO, i * 7 + 3, none⟩ = some (.slice yzA yzn yzc) := by simpa using hat.cellK hlt default 3 _ (by rw [hy]; rfl)
                have a4 : wr.cell? ⟨bO, i * 7 + 4, none⟩ = some (.slice ykA ykn ykc) := by simpa using hat.cellK hlt default 4 _ (by rw [hy]; rfl)
                have a5 : wr.cell? ⟨bO, i * 7 + 5, none⟩ = some (.slice ycA ycn ycc) := by simpa using hat.cellK hlt default 5 _ (by rw [hy]; rfl)
                have a6 : wr.cell? ⟨bO, i * 7 + 6, none⟩ = some (.slice ypA ypn ypc) := by simpa using hat.cellK hlt default 6 _ (by rw [hy]; rfl)
                have i1 : (i : Int) < (M : Int) := by omega
                have i0 : (0 : Int) ≤ (i : Int) := by omega
                have i8 : IntKind.i64.wrap ((i : Int) + 1) = (i : Int) + 1 := by rw [IntKind.wrap_i64]; omega
                clear hat tok hfw hsz hy ht
                go_wp2_with fail
                refine HEX.out.mono ?_
                rintro e w6 ⟨sA, sn, sc', pA', pn, pc, rfl, o1, o2, e6⟩
                have O1 := hide o1
                have O2 := hide o2
                have E6 := hide e6
                have S3 : Hid (rb + 1 ≤ wr.heap.size) := hide HI.out.rd.blk.lt
                have R6 := hide (HI.out.rd.ext e6)
                clear o1 o2 e6 a0 a1 a2 a3 a4 a5 a6 y3 y2 y1
                have ELW : Hid (Ext w wr) := hide (ext_below EQ0.out HI.out.low (Nat.le_of_lt LRB.out.1))
                have hFB : Blk wr fb 24 #[.int .i64 0, .slice none 0 0] := (HI.out.low.block fb LRB.out.2).trans FQ0.out
                have F6 : Hid (Blk w6 fb 24 #[.int .i64 0, .slice none 0 0]) := hide (hFB.ext E6.out)
                by_cases hf : expF t = 0
                · have o1 := O1.out
                  have o2 := O2.out
                  rw [if_pos hf] at o1 o2
                  have P1 := hide o1
                  have P2 := hide o2
                  have HA2 : Hid (∀ j, j < i + 1 → expF (r.getD j default).tab = 0) := hide (fun j hj => by
                    rcases Nat.lt_succ_iff_lt_or_eq.1 hj with h | h
                    · exact HA.out j h
                    · rw [h, HT.out]; exact hf)
                  have q6 : ∃ u, w6.cell? ⟨tO, i * 4 + 2, none⟩ = some u := ⟨_, by simpa using (R6.out.trk.atS len_eTk).cellK hlt default 2 _ rfl⟩
                  obtain ⟨u6, q6⟩ := q6
                  obtain ⟨cR, hcr⟩ := R6.out.trk.blkOf
                  have HCR := hide hcr
                  have qf6 := hcr.frozen (i * 4 + 2)
                  have y2 : w6.cell? ⟨rb, 2, none⟩ = some (.slice (some ⟨tO, 0, none⟩) M tc) := R6.out.blk.cell 2
                  obtain ⟨k0_, hk0, hx0, hx1, hx2⟩ := info_parts Try.info74
                  have hpl : hp.length = i := HI.out.len
                  have S1 : Hid (hp.length + 1 ≤ maxLen) := hide (by unfold maxLen; omega)
                  have S2 : Hid ((hp.length + 1) * 24 ≤ 140737488355328) := hide (by omega)
                  have PL6 := HI.out.pls.ext E6.out
                  have hT7 := Tw.set_ w6 tO (i * 4 + 2) (.slice sA sn sc') none
                  have PL7 := hide (PL6.tw hT7 (PL6.apartB hcr (by decide)) (by simp))
                  clear o1 o2 hcr PL6 hT7 hpl
                  go_upto_region 27 with (fail)
                  obtain ⟨w7, hw7⟩ : ∃ w7, w7 = w6.setCell ⟨tO, i * 4 + 2, none⟩ (.slice sA sn sc') := ⟨_, rfl⟩
                  rw [← hw7] at PL7 ⊢
                  have HW7 := hide hw7
                  have S4 : Hid (rb + 1 ≤ (w7.alloc (.cells #[.slice pA' pn pc] 74)).heap.size) := hide (by rw [World.size_alloc, hw7, World.size_setCell]; have := S3.out; have := E6.out.size; omega)
                  clear hw7 q6 qf6 y2
                  go_wp2_with (at_builtin; refine wpList_append_at _ rfl (.tmp 139) (.tmp 141) 68 rfl (rb + 1) 74 k0_ _ 24 Try.underlying68 hk0 hx0 hx1 hx2 rfl (by omega) len_eB1 one_eB1 _ hp (by rfl) (PL7.out.ext (Ext.alloc _ _)) (some ⟨w7.heap.size, 0, none⟩) 1 1 [(pA', pn, pc)] (by rfl) (At.newE (enc := eB1) w7 _ _ _ rfl) S1.out S2.out S4.out ?_; intro v8 w8 o8 g8 _ r8; have O8 := hide o8; have G8 := hide g8; have RR8 := hide r8; clear o8 g8 r8)
                  have J8 := hide (HI.out.step (w7 := w8) (w6 := w7.alloc (.cells #[.slice pA' pn pc] 74)) E6.out hlt (by have := HMM.out; omega) (by rw [HT.out]; exact P1.out) (by rw [HT.out]; exact P2.out) S3.out S3.out (by rw [HW7.out]; exact Ext.alloc _ _) O8.out G8.out RR8.out)
                  go_roundw
                  case measure => simp [intOf]; omega
                  first | (refine (?_ : ∃ (_ : Nat), _)) | ((repeat apply Exists.intro); refine ⟨?_, rfl⟩)
                  exact ⟨i + 1, _, _, by omega, by go_num, HA2, J8⟩
                · have HE : Hid (rfmF b = rfErr 0 (expF t)) := hide (by
                    have h1 := HFS.out hf
                    simp only [HT.out] at h1
                    rw [HRF.out, h1, if_pos hf])
                  have hne : (expF t != 0) = true := by simpa using hf
                  have g0 : w6.cell? ⟨fb, 0, none⟩ = some (.int .i64 0) := F6.out.cell 0
                  have g1 : w6.cell? ⟨fb, 1, none⟩ = some (.slice none 0 0) := F6.out.cell 1
                  have gf0 := F6.out.frozen 0
                  have gf1 := F6.out.frozen 1
                  go_wp2_with fail
                  refine gen_bod fun wz hz => ?_
                  have FZ : Blk wz fb 24 #[.int .i64 0, .slice none 0 0] := by rw [hz]; exact (F6.out.set_ 0 _).set_ 1 _
                  have EZ : Ext w wz := by
                    have h1 := tw_ext' (Ext.trans ELW.out E6.out) (Tw.set_ w6 fb 0 (.int .i64 0) none) HFB.out
                    rw [hz]; exact tw_ext' h1 (Tw.set_ _ fb 1 (.slice none 0 0) none) HFB.out
                  have k0 : wz.cell? ⟨fb, 0, none⟩ = some (.int .i64 0) := FZ.cell 0
                  have k1 : wz.cell? ⟨fb, 1, none⟩ = some (.slice none 0 0) := FZ.cell 1
                  refine bodyPost_ret (v := .tuple #[.agg #[.int .i64 0, .slice none 0 0], .slice none 0 0, .int .i64 0, .int .i64 (expF t)]) (by simp [results, Try.results11, go_sem, k0, k1]) rfl ?_
                  exact RfG.err HE.out EZ
              · obtain rfl : i = M := by omega
                have hFZ : firstF (fun i => expF (r.getD i default).tab) r.length = 0 := firstF_zero (fun j hj => HA.out j (by have := HMM.out; omega))
                have HRG : Hid (rfmF b = if filF sc (r.map trkOf) ≠ 0 then rfErr 0 (filF sc (r.map trkOf))
                  else if (r.all fun t => (spS t.tab).all (okSp l)) = true then ⟨sc, r.map trkOf, r.map fun t => spB b (spS t.tab), 0, 0⟩ else rfErr 0 1) := hide (by rw [HRF.out, hFZ, if_neg (by simp)])
                have ELW : Hid (Ext w wr) := hide (ext_below EQ0.out HI.out.low (Nat.le_of_lt LRB.out.1))
                have FL : Hid (Blk wr fb 24 #[.int .i64 0, .slice none 0 0]) := hide ((HI.out.low.block fb LRB.out.2).trans FQ0.out)
                have hml : mixL r i = r.map trkOf := by have h9 := HMM.out; rw [← h9]; exact mixL_all r
                have RFN := hide (hml ▸ HI.out.rd)
                have TK := hide RFN.out.tks
                have HNM : Hid (nmF (r.map trkOf)) := hide (fun j hj => by
                  rw [List.length_map] at hj
                  have e2 : (r.map trkOf).getD j default = trkOf (r.getD j default) := by rw [List.getD_eq_getElem?_getD, List.getElem?_map, List.getD_eq_getElem?_getD, List.getElem?_eq_getElem hj]; rfl
                  rw [e2]
                  have h1 := HOK.out.nm (r.getD j default) (by rw [List.getD_eq_getElem?_getD, List.getElem?_eq_getElem hj]; exact List.getElem_mem _)
                  show (r.getD j default).name.length ≤ maxLen
                  have := HPL.out.1
                  unfold maxLen; omega)
                have HCK := hide (refFilm_any (sc := sc) TK.out HNM.out)
                obtain ⟨pS, pSc, hvs, _⟩ := HI.out.pls.at_ len_eB1
                rw [HI.out.len] at hvs
                subst hvs
                clear hFZ hml hlt hi
                go_wp2_with fail
                with_reducible refine HCK.out.mono ?_
                rintro e w5 ⟨rfl, e5⟩
                have E5 := hide e5
                have EW5 : Hid (Ext w w5) := hide (Ext.trans ELW.out e5)
                have F5 := hide (FL.out.ext e5)
                have HFB2 : Hid (fb < wr.heap.size) := hide FL.out.lt
                have E5W : Hid (wr.heap.size ≤ w5.heap.size) := hide e5.size
                clear e5 y1 y2 y3
                by_cases hf : filF sc (r.map trkOf) = 0
                case neg =>
                  have HE : Hid (rfmF b = rfErr 0 (filF sc (r.map trkOf))) := hide (by rw [HRG.out, if_pos hf])
                  have hne : (filF sc (r.map trkOf) != 0) = true := by simpa using hf
                  generalize filF sc (r.map trkOf) = ff at *
                  have g0 : w5.cell? ⟨fb, 0, none⟩ = some (.int .i64 0) := F5.out.cell 0
                  have g1 : w5.cell? ⟨fb, 1, none⟩ = some (.slice none 0 0) := F5.out.cell 1
                  have gf0 := F5.out.frozen 0
                  have gf1 := F5.out.frozen 1
                  go_wp2_with fail
                  refine gen_bod fun wz hz => ?_
                  have FZ : Blk wz fb 24 #[.int .i64 0, .slice none 0 0] := by rw [hz]; exact (F5.out.set_ 0 _).set_ 1 _
                  have EZ : Ext w wz := by
                    have h1 := tw_ext' EW5.out (Tw.set_ w5 fb 0 (.int .i64 0) none) HFB.out
                    rw [hz]; exact tw_ext' h1 (Tw.set_ _ fb 1 (.slice none 0 0) none) HFB.out
                  have k0 : wz.cell? ⟨fb, 0, none⟩ = some (.int .i64 0) := FZ.cell 0
                  have k1 : wz.cell? ⟨fb, 1, none⟩ = some (.slice none 0 0) := FZ.cell 1
                  refine bodyPost_ret (v := .tuple #[.agg #[.int .i64 0, .slice none 0 0], .slice none 0 0, .int .i64 0, .int .i64 ff]) (by simp [results, Try.results11, go_sem, k0, k1]) rfl ?_
                  exact RfG.err HE.out EZ
                case pos =>
                have HRH : Hid (rfmF b = if (r.all fun t => (spS t.tab).all (okSp l)) = true then ⟨sc, r.map trkOf, r.map fun t => spB b (spS t.tab), 0, 0⟩ else rfErr 0 1) := hide (by rw [HRG.out, if_neg (by simp [hf])])
                obtain ⟨j0_, hj0, hy0, hy1, hy2⟩ := info_parts Try.info26
                obtain ⟨u0_, hu0, hv0, hv1, hv2⟩ := info_parts Try.info5
                have hmk := made_run (P := Try.prog) 25 26 j0_ (.slice none 0 0) Try.underlying25 hj0 hy0 (sz := 1) hy1 (bytes := 24) hy2 i (by omega) (by omega)
                go_upto_region 32 with (fail)
                refine gen_wpC fun w6 h6 => ?_
                obtain ⟨dO, hdO⟩ : ∃ dO, dO = w5.heap.size := ⟨_, rfl⟩
                have D6 : Hid (DaI w5 w6 dO i (List.replicate i dQ) (dF b r 0 0)) := hide (by
                  have h9 := DaI.start (w5 := w5) (m := i) (by unfold maxLen; omega)
                  rw [h6, hdO]; exact h9.fn (fun j _ => dF_zero b r j))
                rw [← hdO]
                clear h6 hdO hmk hf
                have HPS := hide (fun (j : Nat) (hj : j < i) => (HI.out.pok j hj).ext E5.out)
                have HPL5 := hide (((HI.out.pls.ext E5.out).atS len_eB1))
                have HBX := hide (fun (W : World) (hW : Ext w5 W) => (RFN.out.blk.ext (Ext.trans E5.out hW)))
                have HDX := hide (fun (W : World) (hW : Ext w5 W) => ((HI.out.dat.ext (Ext.trans E5.out hW)).atS len_ePl))
                have HBYT := hide (fun (W : World) (hW : Ext w5 W) => H.out.ext (Ext.trans EW5.out hW))
                have HBA := hide (fun (W : World) (P Z : Nat) (hW : Ext w5 W) (hp : P ≤ 1000000000) (hz : Z ≤ 100000) => bytesAt_any (D := datN l) (P := P) (Z := Z) (HBX.out W hW) (HDX.out W hW) HDL.out.symm (fun j hj => HDS.out j hj) (fun j hj => by
                  have hmem : (datN l).getD j dN ∈ datN l := by rw [List.getD_eq_getElem?_getD, List.getElem?_eq_getElem (by have := HDL.out; omega)]; exact List.getElem_mem _
                  have hml2 : (datN l).getD j dN ∈ l := (List.mem_filter.1 hmem).1
                  have := (HWF3.out _ hml2).2.1
                  omega) (HBYT.out W hW) (by omega) hp hz)
                go_wp2_with fail
                go_loopw [20] (fun ri wr => ∃ (q : Nat) (hd : List (Option Addr × Nat × Nat)), q ≤ i ∧ ri = .int .i64 (q : Int) ∧ Hid (∀ j, j < q → (spS (r.getD j default).tab).all (okSp l) = true) ∧ Hid (DaI w5 wr dO i hd (dF b r q 0))) (fun ri _ => i - (intOf ri).toNat)
                case atStart => exact ⟨0, _, by omega, rfl, hide (fun j hj => by omega), D6⟩
                case round =>
                  clear D6
                  obtain ⟨q, hd, hq, rfl, HALL, HD⟩ := hrel
                  obtain ⟨wo, hwo⟩ : ∃ wo, wo = wr := ⟨_, rfl⟩
                  subst hwo
                  by_cases hlt : q < i
                  · obtain ⟨pO, oO, rfl, _⟩ := HPL5.out.addr (by omega)
                    obtain ⟨ph, hph⟩ : ∃ x, hp.getD q dQ = x := ⟨_, rfl⟩
                    obtain ⟨pA', pn, pc⟩ := ph
                    have hsp := HPS.out q hlt
                    rw [hph] at hsp
                    obtain ⟨S, hS⟩ : ∃ S, spS (r.getD q default).tab = S := ⟨_, rfl⟩
                    rw [hS] at hsp
                    have hsl : S.length = pn := hsp.len len_e2
                    obtain ⟨hs5, hsb⟩ := sp_right (HA.out q hlt)
                    have hsf := fun k => spB_few (b := b) (HA.out q hlt) k
                    rw [hS] at hs5 hsb hsf
                    have HS := hide hS
                    have HSP := hide (hsp.atS len_e2)
                    have HSB := hide hsb
                    have HSF := hide hsf
                    have HA0 := hide (fun (W : World) (hW : Ext w5 W) => (show W.cell? ⟨pO, oO + q, none⟩ = some (.slice pA' pn pc) from by simpa using (HPL5.out.ext hW).cellK hlt dQ 0 _ (by rw [hph]; rfl)))
                    have i1 : (q : Int) < (i : Int) := by omega
                    have i0 : (0 : Int) ≤ (q : Int) := by omega
                    have i8 : IntKind.i64.wrap ((q : Int) + 1) = (q : Int) + 1 := by rw [IntKind.wrap_i64]; omega
                    clear hsp hsb hsf hS hph
                    go_wp2_with fail
                    go_loopw [21] (fun rk wx => ∃ (k : Nat) (hd' : List (Option Addr × Nat × Nat)), k ≤ pn ∧ rk = .int .i64 (k : Int) ∧ Hid (∀ j, j < k → okSp l (S.getD j (0, 0)) = true) ∧ Hid (DaI w5 wx dO i hd' (dF b r q k))) (fun rk _ => pn - (intOf rk).toNat)
                    case atStart => exact ⟨0, _, by omega, rfl, hide (fun j hj => by omega), HD⟩
                    case round =>
                      clear HD
                      obtain ⟨k, hd', hk, rfl, HKA, HDK⟩ := hrel
                      have a0 := HA0.out wr HDK.out.ext
                      by_cases hlk : k < pn
                      · obtain ⟨pb, po, rfl, _⟩ := HSP.out.addr (by omega)
                        obtain ⟨b0, b1⟩ := (HSP.out.ext HDK.out.ext).pair hlk
                        obtain ⟨hb1, hb2⟩ := HSB.out k (by omega)
                        have HT2 : Hid (spB b (S.take (k + 1)) = spB b (S.take k) ++ pcB b (S.getD k (0, 0)).1.toNat ((S.getD k (0, 0)).1 + (S.getD k (0, 0)).2).toNat) := hide (spB_take (by omega))
                        have HOKS : Hid (okSp l ((S.getD k (0, 0)).1, (S.getD k (0, 0)).2) = true → ∀ j, j < k + 1 → okSp l (S.getD j (0, 0)) = true) := hide (fun h0 j hj => by
                          rcases Nat.lt_succ_iff_lt_or_eq.1 hj with h | h
                          · exact HKA.out j h
                          · rw [h]; exact h0)
                        have HBAD : Hid (okSp l ((S.getD k (0, 0)).1, (S.getD k (0, 0)).2) = false → (r.all fun t => (spS t.tab).all (okSp l)) = false) := hide (fun h0 => by
                          rw [List.all_eq_false]
                          refine ⟨r.getD q default, by rw [List.getD_eq_getElem?_getD, List.getElem?_eq_getElem (by have := HMM.out; omega)]; exact List.getElem_mem _, ?_⟩
                          rw [HS.out, Bool.not_eq_true, List.all_eq_false]
                          refine ⟨S.getD k (0, 0), by rw [List.getD_eq_getElem?_getD, List.getElem?_eq_getElem (by omega)]; exact List.getElem_mem _, ?_⟩
                          rw [show S.getD k (0, 0) = ((S.getD k (0, 0)).1, (S.getD k (0, 0)).2) from rfl, h0]; simp)
                        generalize (S.getD k (0, 0)).1 = p at *
                        generalize (S.getD k (0, 0)).2 = z at *
                        obtain ⟨P, rfl⟩ : ∃ P : Nat, p = (P : Int) := ⟨p.toNat, by omega⟩
                        obtain ⟨Z, rfl⟩ : ∃ Z : Nat, z = (Z : Int) := ⟨z.toNat, by omega⟩
                        have HBW := hide (HBA.out wr P Z HDK.out.ext (by omega) (by omega))
                        have hod := okSp_data l P Z
                        have j1 : (k : Int) < (pn : Int) := by omega
                        have j0 : (0 : Int) ≤ (k : Int) := by omega
                        have j8 : IntKind.i64.wrap ((k : Int) + 1) = (k : Int) + 1 := by rw [IntKind.wrap_i64]; omega
                        by_cases hin : okSp l ((P : Int), (Z : Int)) = true
                        · have HKA2 := hide (HOKS.out hin)
                          have hba : Hid (baR (datN l) P Z = true) := hide (by rw [← hod]; exact hin)
                          clear hin hod
                          go_wp2_with fail
                          refine HBW.out.mono ?_
                          rintro e w8 ⟨e8, cA, cn, cc', rfl, hat⟩
                          have HAT := hide (hat hba.out)
                          rw [hba.out]
                          have EK8 := hide e8
                          have E8 : Hid (Ext w5 w8) := hide (Ext.trans HDK.out.ext EK8.out)
                          clear e8 hat b0 b1 a0
                          obtain ⟨vv, hvv⟩ : ∃ x, hd'.getD q dQ = x := ⟨_, rfl⟩
                          obtain ⟨vA, vn, vc⟩ := vv
                          have D8 := hide (HDK.out.extW EK8.out)
                          have HVV := hide hvv
                          have q8 : w8.cell? ⟨dO, q, none⟩ = some (.slice vA vn vc) := by simpa using (D8.out.own.atS len_eB1).cellK hlt dQ 0 _ (by rw [hvv]; rfl)
                          have hvr := D8.out.rows q hlt
                          rw [hvv] at hvr
                          have HVR := hide hvr
                          have hcl : cn ≤ 1000000 := by have h9 := HAT.out.len; unfold pcB at h9; rw [List.length_take, List.length_drop] at h9; omega
                          have hfl : (dF b r q k q).length ≤ 500000000 := by
                            unfold dF
                            rw [if_neg (by omega), if_pos rfl, HS.out]
                            exact HSF.out k
                          have S1 : Hid ((dF b r q k q).length + cn ≤ maxLen) := hide (by unfold maxLen; omega)
                          have S2 : Hid (((dF b r q k q).length + cn) * 1 ≤ 140737488355328) := hide (by omega)
                          have S3 : Hid (w5.heap.size ≤ w8.heap.size) := hide E8.out.size
                          clear hvv hvr hcl hfl
                          go_wp2_with (at_builtin; refine wpList_append_at _ rfl (.tmp 190) (.tmp 191) 26 rfl w5.heap.size 5 u0_ _ 1 Try.underlying26 hu0 hv0 hv1 hv2 rfl (by omega) len_e8 one_e8 _ (dF b r q k q) (by rfl) HVR.out cA cn cc' (pcB b P (P + Z)) (by rfl) HAT.out S1.out S2.out S3.out ?_; intro v7 w9 o7 g7 _ r7; obtain ⟨A7, c7, hv7, _⟩ := o7.at_ len_e8; obtain ⟨n7, hn7⟩ : ∃ n7, (dF b r q k q ++ pcB b P (P + Z)).length = n7 := ⟨_, rfl⟩; rw [hn7] at hv7; subst hv7; obtain ⟨cdO, hcd⟩ := D8.out.own.blkOf; have q9 : w9.cell? ⟨dO, q, none⟩ = some (.slice vA vn vc) := g7.cell q8 (fun e => HVR.out.apartB hcd (by decide) e.symm); have hd9 : Blk w9 dO 26 cdO := (g7.block dO hcd.lt (fun e => HVR.out.apartB hcd (by decide) e.symm)).trans hcd; have qf9 := hd9.frozen q; have O7 := hide o7; have G7 := hide g7; have RR7 := hide r7; clear o7 g7 r7 hn7 hcd hd9 q8)
                          have D9 : Hid (DaI w5 (w9.setCell ⟨dO, q, none⟩ (.slice A7 n7 c7)) dO i (hd'.set q (A7, n7, c7)) (dF b r q (k + 1))) := hide (by
                            have h1 := D8.out.app (i := q) (l := pcB b P (P + Z)) (w6 := w8) (w7 := w9) (vA := A7) (vn := n7) (vc := c7) (Ext.refl _) hlt O7.out (by rw [HVV.out]; exact G7.out) (by rw [HVV.out]; exact RR7.out)
                            refine h1.fn (fun j _ => dF_more (by
                              rw [HS.out, HT2.out, Int.toNat_natCast, show ((P : Int) + (Z : Int)).toNat = P + Z by omega]) j))
                          go_roundw
                          case measure => simp [intOf]; omega
                          first | (refine (?_ : ∃ (_ : Nat), _)) | ((repeat apply Exists.intro); refine ⟨?_, rfl⟩)
                          exact ⟨k + 1, _, by omega, by go_num, HKA2, D9⟩
                        · have hin2 : okSp l ((P : Int), (Z : Int)) = false := by simpa using hin
                          have hba : Hid (baR (datN l) P Z = false) := hide (by rw [← hod]; exact hin2)
                          have HE : Hid (rfmF b = rfErr 0 1) := hide (by rw [HRH.out, HBAD.out hin2]; rfl)
                          clear hin hin2 hod
                          go_wp2_with fail
                          refine HBW.out.mono ?_
                          rintro e w8 ⟨e8, cA, cn, cc', rfl, hz9⟩
                          clear hz9
                          rw [hba.out]
                          have E8 : Hid (Ext w5 w8) := hide (Ext.trans HDK.out.ext e8)
                          have F8 := hide (F5.out.ext E8.out)
                          clear e8 b0 b1 a0
                          have g0 : w8.cell? ⟨fb, 0, none⟩ = some (.int .i64 0) := F8.out.cell 0
                          have g1 : w8.cell? ⟨fb, 1, none⟩ = some (.slice none 0 0) := F8.out.cell 1
                          have gf0 := F8.out.frozen 0
                          have gf1 := F8.out.frozen 1
                          go_upto_region 40 with (fail)
                          rename_i qK0 qa0
                          have QA0 := hide qa0
                          clear qa0
                          go_wp2_with fail
                          refine QA0.out _ _ (wp_ret ?_)
                          change bodyPost Try.prog Try.f11 (RfG w (rfmF b)) Exit.ret _ _
                          refine gen_bod fun wz hz => ?_
                          have FZ : Blk wz fb 24 #[.int .i64 0, .slice none 0 0] := by rw [hz]; exact (F8.out.set_ 0 _).set_ 1 _
                          have EZ : Ext w wz := by
                            have h1 := tw_ext' (Ext.trans EW5.out E8.out) (Tw.set_ w8 fb 0 (.int .i64 0) none) HFB.out
                            rw [hz]; exact tw_ext' h1 (Tw.set_ _ fb 1 (.slice none 0 0) none) HFB.out
                          have k0 : wz.cell? ⟨fb, 0, none⟩ = some (.int .i64 0) := FZ.cell 0
                          have k1 : wz.cell? ⟨fb, 1, none⟩ = some (.slice none 0 0) := FZ.cell 1
                          refine bodyPost_ret (v := .tuple #[.agg #[.int .i64 0, .slice none 0 0], .slice none 0 0, .int .i64 0, .int .i64 1]) (by simp [results, Try.results11, go_sem, k0, k1]) rfl ?_
                          exact RfG.err HE.out EZ
                      · obtain rfl : k = pn := by omega
                        have HALL2 : Hid (∀ j, j < q + 1 → (spS (r.getD j default).tab).all (okSp l) = true) := hide (fun j hj => by
                          rcases Nat.lt_succ_iff_lt_or_eq.1 hj with h | h
                          · exact HALL.out j h
                          · subst h
                            rw [HS.out, List.all_eq_true]
                            intro x hx
                            obtain ⟨g, hg, rfl⟩ := List.getElem_of_mem hx
                            have := HKA.out g (by omega)
                            rw [List.getD_eq_getElem?_getD, List.getElem?_eq_getElem hg] at this
                            exact this)
                        have D8 : Hid (DaI w5 wr dO i hd' (dF b r (q + 1) 0)) := hide (HDK.out.fn (fun j _ => by rw [dF_next, HS.out, hsl]))
                        have i9 : ¬ (k : Int) < (k : Int) := by omega
                        clear hlk hk
                        go_wp2_with fail
                        go_roundw
                        case measure => simp [intOf]; omega
                        first | (refine (?_ : ∃ (_ : Nat), _)) | ((repeat apply Exists.intro); refine ⟨?_, rfl⟩)
                        exact ⟨q + 1, _, by omega, by go_num, HALL2, D8⟩
                  · obtain rfl : q = i := by omega
                    have HE : Hid (rfmF b = ⟨sc, r.map trkOf, r.map fun t => spB b (spS t.tab), 0, 0⟩) := hide (by
                      rw [HRH.out, if_pos]
                      rw [List.all_eq_true]
                      intro t ht
                      obtain ⟨g, hg, rfl⟩ := List.getElem_of_mem ht
                      have := HALL.out g (by have := HMM.out; omega)
                      rw [List.getD_eq_getElem?_getD, List.getElem?_eq_getElem hg] at this
                      exact this)
                    have RK := hide (HBX.out wo HD.out.ext)
                    have FK := hide (F5.out.ext HD.out.ext)
                    have RFK := hide (RFN.out.ext (Ext.trans E5.out HD.out.ext))
                    have EWO : Hid (Ext w wo) := hide (Ext.trans EW5.out HD.out.ext)
                    have r0 : wo.cell? ⟨rb, 1, none⟩ = some (.int .i64 sc) := RK.out.cell 1
                    have r1 : wo.cell? ⟨rb, 2, none⟩ = some (.slice tA q tc) := RK.out.cell 2
                    have g0 : wo.cell? ⟨fb, 0, none⟩ = some (.int .i64 0) := FK.out.cell 0
                    have g1 : wo.cell? ⟨fb, 1, none⟩ = some (.slice none 0 0) := FK.out.cell 1
                    have gf0 := FK.out.frozen 0
                    have gf1 := FK.out.frozen 1
                    have i9 : ¬ (q : Int) < (q : Int) := by omega
                    clear hlt hq
                    go_upto_region 42 with (fail)
                    rename_i qK0 qa0
                    have QA0 := hide qa0
                    clear qa0
                    go_wp2_with fail
                    refine QA0.out _ _ (wp_ret ?_)
                    change bodyPost Try.prog Try.f11 (RfG w (rfmF b)) Exit.ret _ _
                    refine gen_bod fun wz hz => ?_
                    have hT1 := Tw.set_ wo fb 0 (.int .i64 sc) none
                    have hT2 := Tw.set_ (wo.setCell ⟨fb, 0, none⟩ (.int .i64 sc)) fb 1 (.slice tA q tc) none
                    have hTT : Tw wo wz fb none := by rw [hz]; exact hT1.trans hT2
                    have FZ : Blk wz fb 24 #[.int .i64 sc, .slice tA q tc] := by rw [hz]; exact (FK.out.set_ 0 _).set_ 1 _
                    have EZ : Ext w wz := tw_ext' EWO.out hTT HFB.out
                    have k0 : wz.cell? ⟨fb, 0, none⟩ = some (.int .i64 sc) := FZ.cell 0
                    have k1 : wz.cell? ⟨fb, 1, none⟩ = some (.slice tA q tc) := FZ.cell 1
                    clear hz
                    refine bodyPost_ret (v := .tuple #[.agg #[.int .i64 sc, .slice tA q tc], .slice (some ⟨dO, 0, none⟩) q q, .int .i64 0, .int .i64 0]) (by simp [results, Try.results11, go_sem, k0, k1]) rfl ?_
                    rw [HE.out]
                    refine ⟨EZ, tA, q, tc, hs', some ⟨dO, 0, none⟩, q, q, hd, rfl, ?_, ?_⟩
                    · exact (RFK.out.lowTw hTT LRB.out.2).tks
                    · refine HD.out.lowTw hTT (Nat.lt_of_lt_of_le HFB2.out E5W.out) _ (by rw [List.length_map]; exact HMM.out) (fun j hj => ?_)
                      unfold dF
                      rw [if_pos hj, List.getD_eq_getElem?_getD, List.getElem?_map, List.getD_eq_getElem?_getD, List.getElem?_eq_getElem (by have := HMM.out; omega)]; rfl
      · have HE0 := hide HB.out.2
        have HE : Hid (rfmF b = rfErr (a : Int) 10) := hide (by unfold rfmF; rw [HPR.out]; simp only; rw [HE0.out])
        obtain ⟨sc, tv, bv, dv, hbk⟩ := HB.out.1.blk
        have HXO := hide (fun (ok : Bool) => expect_old ok (n : Int) a hbk)
        have EQ0 : Hid (Ext w wl) := hide (ext_below E2.out HB.out.1.low (Nat.le_of_lt LRB.out.1))
        have FQ0 : Hid (Blk wl fb 24 #[.int .i64 0, .slice none 0 0]) := hide ((HB.out.1.low.block fb LRB.out.2).trans F2.out)
        obtain ⟨wq, hwq⟩ : ∃ wq, wq = wl := ⟨_, rfl⟩
        have BK : Hid (Blk wq rb 85 (fiC (.slice A n c) sc tv bv dv (a : Int))) := hide (by rw [hwq]; exact hbk)
        have EQ : Hid (Ext w wq) := hide (by rw [hwq]; exact EQ0.out)
        have FQ : Hid (Blk wq fb 24 #[.int .i64 0, .slice none 0 0]) := hide (by rw [hwq]; exact FQ0.out)
        rw [← hwq] at HXO ⊢
        clear hwq hbk EQ0 FQ0
        have c5 : wq.cell? ⟨rb, 5, none⟩ = some (.int .i64 (a : Int)) := BK.out.cell 5
        have hge : (a : Int) ≥ 0 := by omega
        have hge2 : (0 : Int) ≤ (a : Int) := by omega
        have hge3 : ¬ (a : Int) < 0 := by omega
        by_cases hlt : k < m
        · have i1 : (k : Int) < (m : Int) := by omega
          go_wp2_with ((go_at_call 33; refine (HXO.out _).mono ?_); rintro e w' ⟨rfl, rfl⟩)
          have g0 : wq.cell? ⟨fb, 0, none⟩ = some (.int .i64 0) := FQ.out.cell 0
          have g1 : wq.cell? ⟨fb, 1, none⟩ = some (.slice none 0 0) := FQ.out.cell 1
          have gf0 := FQ.out.frozen 0
          have gf1 := FQ.out.frozen 1
          have d3 : ∀ u, (wq.drew.setCell ⟨fb, 0, none⟩ u).cell? ⟨rb, 5, none⟩ = some (.int .i64 (a : Int)) := fun u => (Blk.off (BK.out.ext (Ext.drew _)) (FQ.out.ext (Ext.drew _)) (Tw.set_ _ fb 0 u none) (by decide)).cell 5
          have d4 : ∀ u v, ((wq.drew.setCell ⟨fb, 0, none⟩ u).setCell ⟨fb, 1, none⟩ v).cell? ⟨rb, 5, none⟩ = some (.int .i64 (a : Int)) := fun u v => (Blk.off (Blk.off (BK.out.ext (Ext.drew _)) (FQ.out.ext (Ext.drew _)) (Tw.set_ _ fb 0 u none) (by decide)) ((FQ.out.ext (Ext.drew _)).set_ 0 u) (Tw.set_ _ fb 1 v none) (by decide)).cell 5
          go_region
          go_wp2_with fail
          refine gen_bod fun wz hz => ?_
          have FZ : Blk wz fb 24 #[.int .i64 0, .slice none 0 0] := by rw [hz]; exact ((FQ.out.ext (Ext.drew _)).set_ 0 _).set_ 1 _
          have EZ : Ext w wz := by
            have h1 := tw_ext' (Ext.trans EQ.out (Ext.drew _)) (Tw.set_ wq.drew fb 0 (.int .i64 0) none) HFB.out
            rw [hz]; exact tw_ext' h1 (Tw.set_ _ fb 1 (.slice none 0 0) none) HFB.out
          have k0 : wz.cell? ⟨fb, 0, none⟩ = some (.int .i64 0) := FZ.cell 0
          have k1 : wz.cell? ⟨fb, 1, none⟩ = some (.slice none 0 0) := FZ.cell 1
          refine bodyPost_ret (v := .tuple #[.agg #[.int .i64 0, .slice none 0 0], .slice none 0 0, .int .i64 (a : Int), .int .i64 10]) (by simp [results, Try.results11, go_sem, k0, k1]) rfl ?_
          exact RfG.err HE.out EZ
        · have i1 : ¬ (k : Int) < (m : Int) := by omega
          go_wp2_with ((go_at_call 33; refine (HXO.out _).mono ?_); rintro e w' ⟨rfl, rfl⟩)
          have g0 : wq.cell? ⟨fb, 0, none⟩ = some (.int .i64 0) := FQ.out.cell 0
          have g1 : wq.cell? ⟨fb, 1, none⟩ = some (.slice none 0 0) := FQ.out.cell 1
          have gf0 := FQ.out.frozen 0
          have gf1 := FQ.out.frozen 1
          have d3 : ∀ u, (wq.drew.setCell ⟨fb, 0, none⟩ u).cell? ⟨rb, 5, none⟩ = some (.int .i64 (a : Int)) := fun u => (Blk.off (BK.out.ext (Ext.drew _)) (FQ.out.ext (Ext.drew _)) (Tw.set_ _ fb 0 u none) (by decide)).cell 5
          have d4 : ∀ u v, ((wq.drew.setCell ⟨fb, 0, none⟩ u).setCell ⟨fb, 1, none⟩ v).cell? ⟨rb, 5, none⟩ = some (.int .i64 (a : Int)) := fun u v => (Blk.off (Blk.off (BK.out.ext (Ext.drew _)) (FQ.out.ext (Ext.drew _)) (Tw.set_ _ fb 0 u none) (by decide)) ((FQ.out.ext (Ext.drew _)).set_ 0 u) (Tw.set_ _ fb 1 v none) (by decide)).cell 5
          go_region
          go_wp2_with fail
          refine gen_bod fun wz hz => ?_
          have FZ : Blk wz fb 24 #[.int .i64 0, .slice none 0 0] := by rw [hz]; exact ((FQ.out.ext (Ext.drew _)).set_ 0 _).set_ 1 _
          have EZ : Ext w wz := by
            have h1 := tw_ext' (Ext.trans EQ.out (Ext.drew _)) (Tw.set_ wq.drew fb 0 (.int .i64 0) none) HFB.out
            rw [hz]; exact tw_ext' h1 (Tw.set_ _ fb 1 (.slice none 0 0) none) HFB.out
          have k0 : wz.cell? ⟨fb, 0, none⟩ = some (.int .i64 0) := FZ.cell 0
          have k1 : wz.cell? ⟨fb, 1, none⟩ = some (.slice none 0 0) := FZ.cell 1
          refine bodyPost_ret (v := .tuple #[.agg #[.int .i64 0, .slice none 0 0], .slice none 0 0, .int .i64 (a : Int), .int .i64 10]) (by simp [results, Try.results11, go_sem, k0, k1]) rfl ?_
          exact RfG.err HE.out EZ

end Go.Proofs.Ytlonhkjplijlcaa
