/- Walk: track (the reference's reader of films). Conditions as stated. Printed by ftkA.py. -/
import Derived.Test.YtlonhkjplijlcaaMrg41
import Derived.Test.YtlonhkjplijlcaaMrg28
import Derived.Test.YtlonhkjplijlcaaMrg03
import Derived.Test.YtlonhkjplijlcaaMrg43
namespace Go.Proofs.Ytlonhkjplijlcaa
open Go.RowKit
set_option linter.unusedVariables false in
set_option linter.unusedSimpArgs false in
set_option maxRecDepth 100000 in
set_option maxHeartbeats 16000000 in
theorem filetrack_any {w : World} {rb : Nat} {bA : Option Addr} {bn bc : Nat} {dv tv bv : Value} {sc : Int} {hs : List TrkH} {l : List TrkT} {ts : List TbH} {tl : List Tab} {b : List UInt8} {y : PlH} {x : NodeT} (hR : FiI w rb (.slice bA bn bc) sc tv bv dv (-1) hs l ts tl) (hx : PlC w rb y x) (hb : At w 1 e8 bA bn bc b) (hbL : InG (fun k => k < rb) bA) (hwf : WfN b.length 1 x.kids) (hlf : l.length ≤ 1000000) (hlb : tl.length ≤ 1000000) (hbl : b.length ≤ 1000000) :
    Calls Try.prog 61 #[.pointer (some ⟨rb, 0, none⟩), .agg #[.string ⟨y.kind.toArray⟩, .int .i64 (y.beg : Int), .int .i64 (y.dat : Int), .int .i64 (y.en : Int), .slice y.kA y.kn y.kc]] w (FtG w rb (.slice bA bn bc) dv sc hs l ts tl (trkR b x)) := by
  have HR0 := hide hR
  obtain ⟨yk, yg, yd, ye, nA, nn, nc⟩ := y
  have hen : ye = x.en := hx.en
  have hkd : PlsAt w (fun k => k < rb) nA nn nc x.kids := hx.kids
  obtain ⟨ks, hks⟩ := pls_open hkd
  have HK0 := hide hks
  have hkl := hks.len
  have hkb := hks.at_.bound
  have hrb := hR.blk.lt
  have HB0 := hide hb
  have HBLO := hide hbL
  have HWF := hide hwf
  have hbn := hb.len
  have hbc := hb.le
  have hbb := hb.bound
  clear hx hR hks hkd hb hbL hwf
  subst hen
  dsimp only
  go_enter Try.func61, Try.ntmps61
  go_wp2_with fail
  refine gen_wpC fun w0 h0 => ?_
  obtain ⟨nb, hnb⟩ : ∃ nb, nb = w.heap.size := ⟨_, rfl⟩
  obtain ⟨sb, hsb⟩ : ∃ sb, sb = w.heap.size + 1 := ⟨_, rfl⟩
  obtain ⟨tb, htb⟩ : ∃ tb, tb = w.heap.size + 1 + 1 := ⟨_, rfl⟩
  have HBL := hide hbl
  obtain ⟨i0_, hi0, hz0, hz1, hz2⟩ := info_parts Try.info95
  obtain ⟨j0_, hj0, hy0, hy1, hy2⟩ := info_parts Try.info73
  obtain ⟨k0_, hk0, hx0, hx1, hx2⟩ := info_parts Try.info53
  have E0 : Ext w w0 := by rw [h0]; exact Ext.trans (Ext.alloc _ _) (Ext.trans (Ext.alloc _ _) (Ext.alloc _ _))
  have I0 : Hid (FkI w w0 rb nb tb sb (.slice bA bn bc) dv sc hs l ts tl b ⟨yk, yg, yd, x.en, nA, nn, nc⟩ x 0 tv bv bv none 0 0) := hide (by
    refine ⟨?_, ?_, ?_, Own.nil _ _ _ _ _, KpF.ofExt E0, Below.ofExt E0 (by omega), fun _ => ⟨E0, rfl⟩, fun h4 => by omega, fun j hj => by omega, by omega⟩
    · rw [h0, hnb]; exact ((Blk.new _ _ _).alloc _).alloc _
    · rw [h0, htb]; have := Blk.new ((w.alloc (.cells #[.string ⟨yk.toArray⟩, .int .i64 (yg : Int), .int .i64 (yd : Int), .int .i64 (x.en : Int), .slice nA nn nc] 87)).alloc (.cells #[.string ⟨kName.toArray⟩, .string ⟨kRate.toArray⟩, .string ⟨kEdit.toArray⟩, .string ⟨kTabl.toArray⟩] 9)) 53 #[.string ⟨#[]⟩, .int .i64 0, .slice none 0 0, .slice none 0 0]; rw [World.size_alloc, World.size_alloc] at this; exact this
    · rw [h0, hsb]; have := Blk.new (w.alloc (.cells #[.string ⟨yk.toArray⟩, .int .i64 (yg : Int), .int .i64 (yd : Int), .int .i64 (x.en : Int), .slice nA nn nc] 87)) 9 #[.string ⟨kName.toArray⟩, .string ⟨kRate.toArray⟩, .string ⟨kEdit.toArray⟩, .string ⟨kTabl.toArray⟩]; rw [World.size_alloc] at this; exact this.alloc _)
  try simp only [World.size_alloc]
  first | rw [← htb, ← hsb, ← hnb] | rw [← htb, ← hnb] | skip
  have LOT : Hid (w.heap.size ≤ tb) := hide (by omega)
  clear h0 hnb htb hsb E0
  go_loopw [6] (fun ri wr => ∃ (k : Nat), ri = .int .i64 (k : Int) ∧ k ≤ 4 ∧ ((∃ (bv' : Value) (eA : Option Addr) (en ec : Nat), k ≤ nn ∧ Hid (FkI w wr rb nb tb sb (.slice bA bn bc) dv sc hs l ts tl b ⟨yk, yg, yd, x.en, nA, nn, nc⟩ x k tv bv bv' eA en ec)) ∨ (∃ a : Nat, Hid (FkB w wr rb nb tb (.slice bA bn bc) dv sc hs ⟨yk, yg, yd, x.en, nA, nn, nc⟩ x tv a ∧ trkR b x = .bad a)))) (fun ri _ => 4 - (intOf ri).toNat)
  case atStart => exact ⟨0, rfl, by omega, .inl ⟨bv, none, 0, 0, by omega, I0⟩⟩
  case round =>
    clear I0
    obtain ⟨k, rfl, hk4, hst⟩ := hrel
    obtain ⟨wl, hwl⟩ : ∃ wl, wl = wr := ⟨_, rfl⟩
    subst hwl
    rcases hst with ⟨bv', eA, en, ec, hkn, HI⟩ | ⟨a, HB⟩
    · have HPO := hide (HK0.out.below HI.out.low)
      have n3 : wl.cell? ⟨nb, 3, none⟩ = some (.int .i64 (x.en : Int)) := HI.out.nod.cell 3
      have n4 : wl.cell? ⟨nb, 4, none⟩ = some (.slice nA nn nc) := HI.out.nod.cell 4
      rcases (by omega : k = 0 ∨ k = 1 ∨ k = 2 ∨ k = 3 ∨ k = 4) with rfl | rfl | rfl | rfl | rfl
      case inl =>
        have HEX := hide (HI.out.ext (by omega)).1
        have HRD := hide (HR0.out.ext HEX.out)
        have x5 : wl.cell? ⟨rb, 5, none⟩ = some (.int .i64 (-1)) := HRD.out.blk.cell 5
        have xf5 := HRD.out.blk.frozen 5
        by_cases hlt : 0 < nn
        · obtain ⟨oA, pA, rfl, _⟩ := HPO.out.at_.addr (by omega)
          have hd := HPO.out.hd 0 hlt
          have hat := HPO.out.at_
          obtain ⟨z, hz⟩ : ∃ z, x.kids.getD 0 dN = z := ⟨_, rfl⟩
          obtain ⟨u, hu⟩ : ∃ u, ks.getD 0 default = u := ⟨_, rfl⟩
          rw [hz, hu] at hd
          have hwz := HWF.out.at_ (i := 0) (by omega)
          rw [show x.kids.getD 0 (.mk [] 0 0 0 0 []) = z from hz] at hwz
          obtain ⟨uk, ug, ud, ue, uA, un, uc⟩ := u
          have a0 : wl.cell? ⟨oA, pA, none⟩ = some (.string ⟨uk.toArray⟩) := by simpa [Nat.add_assoc] using hat.cellK (k := 0) hlt default 0 _ (by rw [hu]; rfl)
          have a1 : wl.cell? ⟨oA, pA + 1, none⟩ = some (.int .i64 (ug : Int)) := by simpa [Nat.add_assoc] using hat.cellK (k := 0) hlt default 1 _ (by rw [hu]; rfl)
          have a2 : wl.cell? ⟨oA, pA + 2, none⟩ = some (.int .i64 (ud : Int)) := by simpa [Nat.add_assoc] using hat.cellK (k := 0) hlt default 2 _ (by rw [hu]; rfl)
          have a3 : wl.cell? ⟨oA, pA + 3, none⟩ = some (.int .i64 (ue : Int)) := by simpa [Nat.add_assoc] using hat.cellK (k := 0) hlt default 3 _ (by rw [hu]; rfl)
          have a4 : wl.cell? ⟨oA, pA + 4, none⟩ = some (.slice uA un uc) := by simpa [Nat.add_assoc] using hat.cellK (k := 0) hlt default 4 _ (by rw [hu]; rfl)
          have HUK : Hid (uk = z.kind) := hide hd.kind
          have HUG : Hid (ug = z.beg) := hide hd.beg
          have hud : ud = z.dat := hd.dat
          have hue : ue = z.en := hd.en
          have HZ := hide hz
          have HUD := hide hud
          have HUE := hide hue
          have hde : ud ≤ ue := by omega
          have hel : ue ≤ bn := by omega
          have i1 : ((0 : Nat) : Int) < (nn : Int) := by omega
          clear hd hat hz hu hwz hud hue
          go_upto_region 7 with (fail)
          refine gen_wpC fun w2 h2 => ?_
          obtain ⟨kb, hkb2⟩ : ∃ kb, kb = wl.heap.size := ⟨_, rfl⟩
          rw [← hkb2]
          have E2 : Hid (Ext wl w2) := hide (by rw [h2]; exact Ext.alloc _ _)
          have K2 : Hid (Blk w2 kb 87 #[.string ⟨uk.toArray⟩, .int .i64 (ug : Int), .int .i64 (ud : Int), .int .i64 (ue : Int), .slice uA un uc]) := hide (by rw [h2, hkb2]; exact Blk.new _ _ _)
          have R2 := hide (HRD.out.ext E2.out)
          have T2 := hide (HI.out.str.ext E2.out)
          clear h2 hkb2 a0 a1 a2 a3 a4 x5 xf5
          have k0 : w2.cell? ⟨kb, 0, none⟩ = some (.string ⟨uk.toArray⟩) := K2.out.cell 0
          have k1 : w2.cell? ⟨kb, 1, none⟩ = some (.int .i64 (ug : Int)) := K2.out.cell 1
          have t0 : w2.cell? ⟨sb, 0, none⟩ = some (.string ⟨kName.toArray⟩) := T2.out.cell 0
          have hmn : min (0 : Int) 3 = 0 := by decide
          by_cases hkd : uk = kName
          · subst hkd
            have HXP := hide (fun (W : World) (hW : Ext w2 W) => expect_good (ug : Int) (R2.out.ext hW).blk)
            go_region_held3 (fun W => W.cell? ⟨kb, 0, none⟩ = some (.string ⟨kName.toArray⟩) ∧ W.cell? ⟨kb, 1, none⟩ = some (.int .i64 (ug : Int)) ∧ W.cell? ⟨sb, 0, none⟩ = some (.string ⟨kName.toArray⟩)) (first | go_keep) (((go_at_call 33; with_reducible refine (HXP.out _ (Ext.drew _)).mono ?_); rintro e w' ⟨rfl, rfl⟩))
            obtain ⟨w3, hw3⟩ : ∃ w3, w3 = w2.drew := ⟨_, rfl⟩
            rw [← hw3]
            have E3 : Hid (Ext wl w3) := hide (by rw [hw3]; exact Ext.trans E2.out (Ext.drew _))
            have K3 := hide (K2.out.ext (show Ext w2 w3 by rw [hw3]; exact Ext.drew _))
            clear hw3 k0 k1 t0
            have R3 := hide (HRD.out.ext E3.out)
            have HB3 := hide (HB0.out.ext (Ext.trans HEX.out E3.out))
            obtain ⟨cA, hr, ha⟩ := HB3.out.range_ Try.underlying26 (fun _ => by kernel_rfl) (k := ud) (m := ue) hde hel (ud : Int) (ue : Int) rfl rfl
            obtain ⟨cn, hcn⟩ : ∃ cn, ue - ud = cn := ⟨_, rfl⟩
            obtain ⟨cc, hcc⟩ : ∃ cc, bc - ud = cc := ⟨_, rfl⟩
            rw [hcn, hcc] at hr ha
            obtain ⟨C, hC⟩ : ∃ C, ctB b (x.kids.getD 0 dN) = C := ⟨_, rfl⟩
            have hCC : (b.drop ud).take cn = C := by rw [← hC, HZ.out, ← hcn, HUD.out, HUE.out]; rfl
            rw [hCC] at ha
            have hat3 := ha w3 HB3.out
            have HAX := hide ha
            have HC := hide hC
            have hlc := hat3.len
            have hlm := hat3.bound
            have HDA := hide (fun (W : World) (hW : Ext w3 W) => hat3.ext hW)
            have HKR : Hid (kidR x.kids 0 (kK 0) x.en = .ok (x.kids.getD 0 dN)) := hide (kidR_good (by omega) (by rw [HZ.out, ← HUK.out]; rfl))
            have c0 : w3.cell? ⟨rb, 0, none⟩ = some (.slice bA bn bc) := R3.out.blk.cell 0
            have k2 : w3.cell? ⟨kb, 2, none⟩ = some (.int .i64 (ud : Int)) := K3.out.cell 2
            have k3 : w3.cell? ⟨kb, 3, none⟩ = some (.int .i64 (ue : Int)) := K3.out.cell 3
            have hC6 : C.length ≤ 1000000 := by rw [← hC]; exact Nat.le_trans (ctB_le b _) HBL.out
            have HC6 := hide hC6
            clear ha hat3 hC hCC hC6 hcn hcc
            go_upto_region 8 with (fail)
            go_region
            clear hr c0 k2 k3
            obtain ⟨w4, hw4⟩ : ∃ w4, w4 = w3.drew := ⟨_, rfl⟩
            rw [← hw4]
            have E4 : Hid (Ext wl w4) := hide (by rw [hw4]; exact Ext.trans E3.out (Ext.drew _))
            have K4 := hide (K3.out.ext (show Ext w3 w4 by rw [hw4]; exact Ext.drew _))
            have HD4 := hide (HDA.out w4 (by rw [hw4]; exact Ext.drew _))
            have R4 := hide (HRD.out.ext E4.out)
            have T4 := hide (HI.out.trk.ext E4.out)
            have O4 := hide (HI.out.ed.ext E4.out)
            clear hw4 HDA
            have HCV := conv_bytes0 HD4.out
            have t0 : w4.cell? ⟨tb, 0, none⟩ = some _ := T4.out.cell 0
            have tf := T4.out.frozen 0
            go_wp2_with fail
            go_roundw
            case measure => simp [intOf]
            first | (refine (?_ : ∃ (_ : Nat), _)) | ((repeat apply Exists.intro); refine ⟨?_, rfl⟩)
            have hC := HC.out
            subst hC
            have hT := Tw.set_ w4 tb 0 (.string ⟨(ctB b (x.kids.getD 0 dN)).toArray⟩) none
            refine ⟨1, by go_num, by omega, .inl ⟨bv', eA, en, ec, by omega, hide ?_⟩⟩
            exact HI.out.next (by omega) hrb (tw_ext' (Ext.trans HEX.out E4.out) hT HI.out.lo2.2.1) (fun t cs h1 h2 g hb => Blk.off (hb.ext E4.out) T4.out hT h1) (T4.out.set_ 0 _) (O4.out.tw hT (O4.out.apartB T4.out (by decide)) (by simp)) ⟨HKR.out, trivial⟩
          · have HE : Hid (trkR b x = .bad ug) := hide (by rw [HUG.out, ← HZ.out]; exact trkR_kid (k := 0) (by omega) HI.out.oks (kidR_bad (by omega) (by rw [HZ.out, ← HUK.out]; exact hkd)))
            have hne : (uk == [110, 97, 109, 101]) = false := by simpa using (show ¬ uk = [110, 97, 109, 101] from hkd)
            have HXP := hide (fun (W : World) (hW : Ext w2 W) => expect_bad ug (R2.out.ext hW).blk)
            go_region_held3 (fun W => W.cell? ⟨kb, 0, none⟩ = some (.string ⟨uk.toArray⟩) ∧ W.cell? ⟨kb, 1, none⟩ = some (.int .i64 (ug : Int)) ∧ W.cell? ⟨sb, 0, none⟩ = some (.string ⟨kName.toArray⟩)) (first | go_keep | exact ⟨KB3.out.cell 0, KB3.out.cell 1, KS3.out.cell 0⟩) (((go_at_call 33; with_reducible refine (HXP.out _ (Ext.drew _)).mono ?_); rintro e w3 ⟨rfl, p1, p2⟩; have HB1 := hide p1; have HT1 := hide p2; have KB3 := hide (Blk.off (K2.out.ext (Ext.drew _)) (R2.out.ext (Ext.drew _)).blk p2 (by decide)); have KS3 := hide (Blk.off (T2.out.ext (Ext.drew _)) (R2.out.ext (Ext.drew _)).blk p2 (by decide)); clear p1 p2))
            go_wp2_with fail
            refine bodyPost_ret (v := .tuple #[]) (by simp [results, Try.results61, go_sem]) rfl ?_
            exact FtG.bad HE.out (KpF.chain HI.out.kp (KpF.chain (KpF.ofExt (Ext.trans E2.out (Ext.drew _))) (KpF.ofTw (R2.out.ext (Ext.drew _)).blk HT1.out))) (Below.chain HI.out.low (Below.chain (Below.ofExt (Ext.trans E2.out (Ext.drew _)) (Nat.le_of_lt HRD.out.blk.lt)) (Below.ofTw HT1.out (Nat.le_of_lt (R2.out.ext (Ext.drew _)).blk.lt) (Nat.le_refl _)))) HB1.out
        · skip
          have hnj : nn = 0 := by omega
          have HE : Hid (trkR b x = .bad x.en) := hide (trkR_kid (k := 0) (by omega) HI.out.oks (by unfold kidR; rw [List.getElem?_eq_none (by omega)]))
          have HXB := hide (expect_bad x.en HRD.out.blk)
          have LO2 := hide HI.out.lo2
          subst hnj
          have T0 := hide HI.out.trk
          go_wp2_with ((go_at_call 33; with_reducible refine HXB.out.mono ?_); rintro e wq ⟨rfl, p1, p2⟩; have BK := hide p1; have HT1 := hide p2; clear p1 p2)
          obtain ⟨nm, hnm⟩ : ∃ nm, nmK b x 0 = nm := ⟨_, rfl⟩
          obtain ⟨s, hs_⟩ : ∃ s, scK b x 0 = s := ⟨_, rfl⟩
          have TB := hide (Blk.off T0.out HRD.out.blk HT1.out (by decide))
          rw [hnm, hs_] at TB
          have OW := hide (HRD.out.trk.tw HT1.out (fun e => by have := (HRD.out.trk.lt _ e).1; omega) (by simp))
          have KPQ := hide (KpF.chain HI.out.kp (KpF.ofTw HRD.out.blk HT1.out))
          have LOQ := hide (Below.chain HI.out.low (Below.ofTw HT1.out (Nat.le_of_lt HRD.out.blk.lt) (Nat.le_refl _)))
          clear hnm hs_ x5 xf5 n3 n4
          have S1 : Hid (hs.length + 1 ≤ maxLen) := hide (by have := HR0.out.len; unfold maxLen; omega)
          have S2 : Hid ((hs.length + 1) * 72 ≤ 140737488355328) := hide (by have := HR0.out.len; omega)
          go_upto_region 26 with (fail)
          refine region_z (S := S26 rb tb tv nm s eA en ec) 11 (by kernel_rfl) ?_
          refine AnyZ.takeE (i := 0) (d := 143) (oi := _) (v := ?_) rfl rfl rfl (by kernel_rfl) (by kernel_rfl) (by kernel_rfl) (by kernel_rfl) (by kernel_rfl) (by kernel_rfl) (fun _ _ _ h => h) (Or.inl ⟨by rfl, ?_⟩) (S26.of (BK.out.ext (Ext.drew _)) (TB.out.ext (Ext.drew _))) ?_
          rotate_left
          · intro W hW; obtain ⟨s1, s2, s3, s4, s5⟩ := hW; first | (go_simp; done) | (go_simp; with_reducible rfl)
          try simp only [Act.put, List.setIfInBounds_toArray, List.set_cons_zero, List.set_cons_succ]
          refine AnyZ.takeE (i := 1) (d := 144) (oi := _) (v := ?_) rfl rfl rfl (by kernel_rfl) (by kernel_rfl) (by kernel_rfl) (by kernel_rfl) (by kernel_rfl) (by kernel_rfl) (fun _ _ _ h => h) (Or.inl ⟨by rfl, ?_⟩) (S26.of (BK.out.ext (Ext.drew _)) (TB.out.ext (Ext.drew _))) ?_
          rotate_left
          · intro W hW; obtain ⟨s1, s2, s3, s4, s5⟩ := hW; first | (go_simp; done) | (go_simp; with_reducible rfl)
          try simp only [Act.put, List.setIfInBounds_toArray, List.set_cons_zero, List.set_cons_succ]
          refine AnyZ.takeE (i := 2) (d := 145) (oi := _) (v := ?_) rfl rfl rfl (by kernel_rfl) (by kernel_rfl) (by kernel_rfl) (by kernel_rfl) (by kernel_rfl) (by kernel_rfl) (fun _ _ _ h => h) (Or.inl ⟨by rfl, ?_⟩) (S26.of (BK.out.ext (Ext.drew _)) (TB.out.ext (Ext.drew _))) ?_
          rotate_left
          · intro W hW; obtain ⟨s1, s2, s3, s4, s5⟩ := hW; first | (go_simp; done) | (go_simp; with_reducible rfl)
          try simp only [Act.put, List.setIfInBounds_toArray, List.set_cons_zero, List.set_cons_succ]
          refine AnyZ.takeE (i := 3) (d := 146) (oi := _) (v := ?_) rfl rfl rfl (by kernel_rfl) (by kernel_rfl) (by kernel_rfl) (by kernel_rfl) (by kernel_rfl) (by kernel_rfl) (fun _ _ _ h => h) (Or.inl ⟨by rfl, ?_⟩) (S26.of (BK.out.ext (Ext.drew _)) (TB.out.ext (Ext.drew _))) ?_
          rotate_left
          · intro W hW; obtain ⟨s1, s2, s3, s4, s5⟩ := hW; first | (go_simp; done) | (go_simp; with_reducible rfl)
          try simp only [Act.put, List.setIfInBounds_toArray, List.set_cons_zero, List.set_cons_succ]
          refine AnyZ.takeE (i := 4) (d := 147) (oi := _) (v := ?_) rfl rfl rfl (by kernel_rfl) (by kernel_rfl) (by kernel_rfl) (by kernel_rfl) (by kernel_rfl) (by kernel_rfl) (fun _ _ _ h => h) (Or.inl ⟨by rfl, ?_⟩) (S26.of (BK.out.ext (Ext.drew _)) (TB.out.ext (Ext.drew _))) ?_
          rotate_left
          · intro W hW; obtain ⟨s1, s2, s3, s4, s5⟩ := hW; first | (go_simp; done) | (go_simp; with_reducible rfl)
          try simp only [Act.put, List.setIfInBounds_toArray, List.set_cons_zero, List.set_cons_succ]
          refine AnyZ.takeE (i := 5) (d := 148) (oi := _) (v := ?_) rfl rfl rfl (by kernel_rfl) (by kernel_rfl) (by kernel_rfl) (by kernel_rfl) (by kernel_rfl) (by kernel_rfl) (fun _ _ _ h => h) (Or.inl ⟨by rfl, ?_⟩) (S26.of (BK.out.ext (Ext.drew _)) (TB.out.ext (Ext.drew _))) ?_
          rotate_left
          · intro W hW; obtain ⟨s1, s2, s3, s4, s5⟩ := hW; first | (go_simp; done) | (go_simp; with_reducible rfl)
          try simp only [Act.put, List.setIfInBounds_toArray, List.set_cons_zero, List.set_cons_succ]
          refine AnyZ.takeE (i := 6) (d := 149) (oi := _) (v := ?_) rfl rfl rfl (by kernel_rfl) (by kernel_rfl) (by kernel_rfl) (by kernel_rfl) (by kernel_rfl) (by kernel_rfl) (fun _ _ _ h => h) (Or.inl ⟨by rfl, ?_⟩) (S26.of (BK.out.ext (Ext.drew _)) (TB.out.ext (Ext.drew _))) ?_
          rotate_left
          · intro W hW; obtain ⟨s1, s2, s3, s4, s5⟩ := hW; first | (go_simp; done) | (go_simp; with_reducible rfl)
          try simp only [Act.put, List.setIfInBounds_toArray, List.set_cons_zero, List.set_cons_succ]
          refine AnyZ.step (i := 7) rfl (by kernel_rfl) (fun K hK => ?_)
          go_simp
          refine gen_hkT hK fun w3 hw3 => ?_
          have E3 : Hid (Ext wq w3) := hide (by rw [hw3]; exact Ext.trans (Ext.drew _) (Ext.alloc _ _))
          have A3 : Hid (At w3 4 eTk (some ⟨wq.drew.heap.size, 0, none⟩) 1 1 [(⟨nm, s, none, 0, 0, eA, en, ec⟩ : TrkH)]) := hide (by rw [hw3]; exact At.newE (enc := eTk) wq.drew _ _ _ rfl)
          refine ⟨fun h => S26.of (BK.out.ext E3.out) (TB.out.ext E3.out), ?_⟩
          clear hK K hw3
          try simp only [Act.put, List.setIfInBounds_toArray, List.set_cons_zero, List.set_cons_succ]
          refine AnyZ.step (i := 8) rfl (by kernel_rfl) (fun K hK => ?_)
          have S3 : Hid (rb + 1 ≤ w3.heap.size) := hide (by have := BK.out.lt; have := E3.out.size; omega)
          refine step_append_at rfl _ _ 22 rfl (rb + 1) 53 k0_ _ 72 Try.underlying22 hk0 hx0 hx1 hx2 rfl (by omega) len_eTk one_eTk tv hs (by rfl) (OW.out.ext E3.out) (some ⟨wq.drew.heap.size, 0, none⟩) 1 1 _ (by rfl) A3.out S1.out S2.out S3.out ?_
          intro v7 w7 o7 g7 _ r7
          obtain ⟨A7, c7, hv7, _⟩ := o7.at_ len_eTk
          obtain ⟨n7, hn7⟩ : ∃ n7, (hs ++ [(⟨nm, s, none, 0, 0, eA, en, ec⟩ : TrkH)]).length = n7 := ⟨_, rfl⟩
          rw [hn7] at hv7
          subst hv7
          have O7 := hide o7
          have G7 := hide g7
          have RR7 := hide r7
          have hRB := BK.out.ext E3.out
          have hTB := TB.out.ext E3.out
          have HAP := OW.out.ext E3.out
          have B7 : Hid (Blk w7 rb 85 _) := hide ((g7.block rb hRB.lt (fun e => HAP.apartB hRB (by decide) e.symm)).trans hRB)
          have T7 : Hid (Blk w7 tb 53 _) := hide ((g7.block tb hTB.lt (fun e => by have := (HR0.out.trk.lt tb e.symm).2; have := LO2.out; omega)).trans hTB)
          have k7 : w7.cell? ⟨rb, 2, none⟩ = some tv := B7.out.cell 2
          have f7 := B7.out.frozen 2
          clear o7 g7 r7 hn7 hRB HAP hTB
          refine hK.out _ _ (fun h => S26.of B7.out T7.out) ?_
          clear hK K
          try simp only [Act.put, List.setIfInBounds_toArray, List.set_cons_zero, List.set_cons_succ]
          refine AnyZ.step (i := 9) rfl (by kernel_rfl) (fun K hK => ?_)
          go_simp
          refine hK.out _ _ (fun h => ?_) ?_
          · exact S26.of B7.out T7.out
          clear hK K
          try simp only [Act.put, List.setIfInBounds_toArray, List.set_cons_zero, List.set_cons_succ]
          refine AnyZ.step (i := 10) rfl (by kernel_rfl) (fun K hK => ?_)
          go_simp
          refine hK.out _ _ (fun h => ?_) ?_
          · exact S26.of B7.out T7.out
          clear hK K
          try simp only [Act.put, List.setIfInBounds_toArray, List.set_cons_zero, List.set_cons_succ]
          refine AnyZ.step (i := 11) rfl (by kernel_rfl) (fun K hK => ?_)
          go_simp
          refine hK.out _ _ (fun h => ?_) ?_
          · exact absurd (h.symm.trans (show _ = true by kernel_rfl)) (by simp)
          clear hK K
          try simp only [Act.put, List.setIfInBounds_toArray, List.set_cons_zero, List.set_cons_succ]
          refine AnyZ.step (i := 12) rfl (by kernel_rfl) (fun K hK => ?_)
          go_simp
          refine hK.out _ _ (fun h => ?_) ?_
          · exact absurd (h.symm.trans (show _ = true by kernel_rfl)) (by simp)
          clear hK K
          try simp only [Act.put, List.setIfInBounds_toArray, List.set_cons_zero, List.set_cons_succ]
          refine AnyZ.done (by kernel_rfl) ?_ _
          clear k7 f7
          go_wp2_with fail
          refine bodyPost_ret (v := .tuple #[]) (by simp [results, Try.results61, go_sem]) rfl ?_
          have hT8 := Tw.set_ w7 rb 2 (.slice A7 n7 c7) none
          have hB8 := B7.out.set_ 2 (.slice A7 n7 c7)
          have hKP : KpF w (w7.setCell ⟨rb, 2, none⟩ (.slice A7 n7 c7)) := KpF.chain KPQ.out (fun t cs h1 h2 _ g hb => by
            have hb2 : Blk w3 g t cs := hb.ext E3.out
            exact Blk.off ((G7.out.block g hb2.lt (fun e => (OW.out.ext E3.out).apartB hb2 (Ne.symm h2) e.symm)).trans hb2) B7.out hT8 h1)
          have hLO : Below rb w (w7.setCell ⟨rb, 2, none⟩ (.slice A7 n7 c7)) := Below.chain LOQ.out (Below.chain (Below.ofExt E3.out (Nat.le_of_lt BK.out.lt)) (Below.chain ((Below.refl rb w3).grown G7.out (by have := S3.out; omega) (fun g e => by have := (OW.out.lt g e).1; omega)) (Below.ofTw hT8 (Nat.le_of_lt B7.out.lt) (Nat.le_refl _))))
          exact FtG.bad HE.out hKP hLO hB8
      case inr.inl =>
        have HEX := hide (HI.out.ext (by omega)).1
        have HRD := hide (HR0.out.ext HEX.out)
        have x5 : wl.cell? ⟨rb, 5, none⟩ = some (.int .i64 (-1)) := HRD.out.blk.cell 5
        have xf5 := HRD.out.blk.frozen 5
        by_cases hlt : 1 < nn
        · obtain ⟨oA, pA, rfl, _⟩ := HPO.out.at_.addr (by omega)
          have hd := HPO.out.hd 1 hlt
          have hat := HPO.out.at_
          obtain ⟨z, hz⟩ : ∃ z, x.kids.getD 1 dN = z := ⟨_, rfl⟩
          obtain ⟨u, hu⟩ : ∃ u, ks.getD 1 default = u := ⟨_, rfl⟩
          rw [hz, hu] at hd
          have hwz := HWF.out.at_ (i := 1) (by omega)
          rw [show x.kids.getD 1 (.mk [] 0 0 0 0 []) = z from hz] at hwz
          obtain ⟨uk, ug, ud, ue, uA, un, uc⟩ := u
          have a0 : wl.cell? ⟨oA, pA + 5, none⟩ = some (.string ⟨uk.toArray⟩) := by simpa [Nat.add_assoc] using hat.cellK (k := 1) hlt default 0 _ (by rw [hu]; rfl)
          have a1 : wl.cell? ⟨oA, pA + 6, none⟩ = some (.int .i64 (ug : Int)) := by simpa [Nat.add_assoc] using hat.cellK (k := 1) hlt default 1 _ (by rw [hu]; rfl)
          have a2 : wl.cell? ⟨oA, pA + 7, none⟩ = some (.int .i64 (ud : Int)) := by simpa [Nat.add_assoc] using hat.cellK (k := 1) hlt default 2 _ (by rw [hu]; rfl)
          have a3 : wl.cell? ⟨oA, pA + 8, none⟩ = some (.int .i64 (ue : Int)) := by simpa [Nat.add_assoc] using hat.cellK (k := 1) hlt default 3 _ (by rw [hu]; rfl)
          have a4 : wl.cell? ⟨oA, pA + 9, none⟩ = some (.slice uA un uc) := by simpa [Nat.add_assoc] using hat.cellK (k := 1) hlt default 4 _ (by rw [hu]; rfl)
          have HUK : Hid (uk = z.kind) := hide hd.kind
          have HUG : Hid (ug = z.beg) := hide hd.beg
          have hud : ud = z.dat := hd.dat
          have hue : ue = z.en := hd.en
          have HZ := hide hz
          have HUD := hide hud
          have HUE := hide hue
          have hde : ud ≤ ue := by omega
          have hel : ue ≤ bn := by omega
          have i1 : ((1 : Nat) : Int) < (nn : Int) := by omega
          clear hd hat hz hu hwz hud hue
          go_upto_region 7 with (fail)
          refine gen_wpC fun w2 h2 => ?_
          obtain ⟨kb, hkb2⟩ : ∃ kb, kb = wl.heap.size := ⟨_, rfl⟩
          rw [← hkb2]
          have E2 : Hid (Ext wl w2) := hide (by rw [h2]; exact Ext.alloc _ _)
          have K2 : Hid (Blk w2 kb 87 #[.string ⟨uk.toArray⟩, .int .i64 (ug : Int), .int .i64 (ud : Int), .int .i64 (ue : Int), .slice uA un uc]) := hide (by rw [h2, hkb2]; exact Blk.new _ _ _)
          have R2 := hide (HRD.out.ext E2.out)
          have T2 := hide (HI.out.str.ext E2.out)
          clear h2 hkb2 a0 a1 a2 a3 a4 x5 xf5
          have k0 : w2.cell? ⟨kb, 0, none⟩ = some (.string ⟨uk.toArray⟩) := K2.out.cell 0
          have k1 : w2.cell? ⟨kb, 1, none⟩ = some (.int .i64 (ug : Int)) := K2.out.cell 1
          have t0 : w2.cell? ⟨sb, 1, none⟩ = some (.string ⟨kRate.toArray⟩) := T2.out.cell 1
          have hmn : min (1 : Int) 3 = 1 := by decide
          by_cases hkd : uk = kRate
          · subst hkd
            have HXP := hide (fun (W : World) (hW : Ext w2 W) => expect_good (ug : Int) (R2.out.ext hW).blk)
            go_region_held3 (fun W => W.cell? ⟨kb, 0, none⟩ = some (.string ⟨kRate.toArray⟩) ∧ W.cell? ⟨kb, 1, none⟩ = some (.int .i64 (ug : Int)) ∧ W.cell? ⟨sb, 1, none⟩ = some (.string ⟨kRate.toArray⟩)) (first | go_keep) (((go_at_call 33; with_reducible refine (HXP.out _ (Ext.drew _)).mono ?_); rintro e w' ⟨rfl, rfl⟩))
            obtain ⟨w3, hw3⟩ : ∃ w3, w3 = w2.drew := ⟨_, rfl⟩
            rw [← hw3]
            have E3 : Hid (Ext wl w3) := hide (by rw [hw3]; exact Ext.trans E2.out (Ext.drew _))
            have K3 := hide (K2.out.ext (show Ext w2 w3 by rw [hw3]; exact Ext.drew _))
            clear hw3 k0 k1 t0
            have R3 := hide (HRD.out.ext E3.out)
            have HB3 := hide (HB0.out.ext (Ext.trans HEX.out E3.out))
            obtain ⟨cA, hr, ha⟩ := HB3.out.range_ Try.underlying26 (fun _ => by kernel_rfl) (k := ud) (m := ue) hde hel (ud : Int) (ue : Int) rfl rfl
            obtain ⟨cn, hcn⟩ : ∃ cn, ue - ud = cn := ⟨_, rfl⟩
            obtain ⟨cc, hcc⟩ : ∃ cc, bc - ud = cc := ⟨_, rfl⟩
            rw [hcn, hcc] at hr ha
            obtain ⟨C, hC⟩ : ∃ C, ctB b (x.kids.getD 1 dN) = C := ⟨_, rfl⟩
            have hCC : (b.drop ud).take cn = C := by rw [← hC, HZ.out, ← hcn, HUD.out, HUE.out]; rfl
            rw [hCC] at ha
            have hat3 := ha w3 HB3.out
            have HAX := hide ha
            have HC := hide hC
            have hlc := hat3.len
            have hlm := hat3.bound
            have HDA := hide (fun (W : World) (hW : Ext w3 W) => hat3.ext hW)
            have HKR : Hid (kidR x.kids 1 (kK 1) x.en = .ok (x.kids.getD 1 dN)) := hide (kidR_good (by omega) (by rw [HZ.out, ← HUK.out]; rfl))
            have c0 : w3.cell? ⟨rb, 0, none⟩ = some (.slice bA bn bc) := R3.out.blk.cell 0
            have k2 : w3.cell? ⟨kb, 2, none⟩ = some (.int .i64 (ud : Int)) := K3.out.cell 2
            have k3 : w3.cell? ⟨kb, 3, none⟩ = some (.int .i64 (ue : Int)) := K3.out.cell 3
            have hC6 : C.length ≤ 1000000 := by rw [← hC]; exact Nat.le_trans (ctB_le b _) HBL.out
            have HC6 := hide hC6
            clear ha hat3 hC hCC hC6 hcn hcc
            go_upto_region 8 with (fail)
            go_region
            clear hr c0 k2 k3
            obtain ⟨w4, hw4⟩ : ∃ w4, w4 = w3.drew := ⟨_, rfl⟩
            rw [← hw4]
            have E4 : Hid (Ext wl w4) := hide (by rw [hw4]; exact Ext.trans E3.out (Ext.drew _))
            have K4 := hide (K3.out.ext (show Ext w3 w4 by rw [hw4]; exact Ext.drew _))
            have HD4 := hide (HDA.out w4 (by rw [hw4]; exact Ext.drew _))
            have R4 := hide (HRD.out.ext E4.out)
            have T4 := hide (HI.out.trk.ext E4.out)
            have O4 := hide (HI.out.ed.ext E4.out)
            clear hw4 HDA
            have k1 : w4.cell? ⟨kb, 1, none⟩ = some (.int .i64 (ug : Int)) := K4.out.cell 1
            by_cases h4 : cn = 4
            · subst h4
              have HXG := hide (expect_good (ug : Int) R4.out.blk)
              have HNB := hide (number_any HD4.out (by omega))
              have HNR : Hid (numR C = numB C) := hide (numR_small (by omega))
              rw [HNR.out] at HNB
              have t1 : w4.cell? ⟨tb, 1, none⟩ = some _ := T4.out.cell 1
              have tf := T4.out.frozen 1
              go_wp2_with (first | ((go_at_call 33; with_reducible refine HXG.out.mono ?_); rintro e w' ⟨rfl, rfl⟩) | ((go_at_call 62; with_reducible refine HNB.out.mono ?_); rintro e w' ⟨rfl, rfl⟩))
              go_roundw
              case measure => simp [intOf]
              first | (refine (?_ : ∃ (_ : Nat), _)) | ((repeat apply Exists.intro); refine ⟨?_, rfl⟩)
              have hC := HC.out
              subst hC
              have hT := Tw.set_ w4 tb 1 (.int .i64 (numB (ctB b (x.kids.getD 1 dN)) : Int)) none
              refine ⟨2, by go_num, by omega, .inl ⟨bv', eA, en, ec, by omega, hide ?_⟩⟩
              exact HI.out.next (by omega) hrb (tw_ext' (Ext.trans HEX.out E4.out) hT HI.out.lo2.2.1) (fun t cs h1 h2 g hb => Blk.off (hb.ext E4.out) T4.out hT h1) (T4.out.set_ 1 _) (O4.out.tw hT (O4.out.apartB T4.out (by decide)) (by simp)) ⟨HKR.out, by show (ctB b (x.kids.getD 1 dN)).length = 4; omega⟩
            · have HE : Hid (trkR b x = .bad ug) := hide (by rw [HUG.out, ← HZ.out]; exact trkR_chk (k := 1) (by omega) HI.out.oks HKR.out (by show ¬ (ctB b (x.kids.getD 1 dN)).length = 4; rw [HC.out]; omega))
              have HXB := hide (expect_bad ug R4.out.blk)
              have hne : ¬ ((cn : Int) = 4) := by omega
              have hnb : ((cn : Int) == 4) = false := by simpa using hne
              have hnc : (cn == 4) = false := by simpa using h4
              go_wp2_with ((go_at_call 33; with_reducible refine HXB.out.mono ?_); rintro e w5 ⟨rfl, p1, p2⟩; have HB1 := hide p1; have HT1 := hide p2; clear p1 p2)
              go_roundw
              case measure => simp [intOf]
              first | (refine (?_ : ∃ (_ : Nat), _)) | ((repeat apply Exists.intro); refine ⟨?_, rfl⟩)
              refine ⟨2, by go_num, by omega, .inr ⟨ug, hide ⟨⟨?_, ⟨_, _, _, _, _, Blk.off T4.out R4.out.blk HT1.out (by decide)⟩, ⟨_, HB1.out⟩, ?_, ?_, ?_⟩, HE.out⟩⟩⟩
              · exact Blk.off (HI.out.nod.ext E4.out) R4.out.blk HT1.out (by decide)
              · exact R4.out.trk.tw HT1.out (fun e => by have := (R4.out.trk.lt _ e).1; omega) (by simp)
              · exact KpF.chain HI.out.kp (KpF.chain (KpF.ofExt E4.out) (KpF.ofTw R4.out.blk HT1.out))
              · exact Below.chain HI.out.low (Below.chain (Below.ofExt E4.out (Nat.le_of_lt HRD.out.blk.lt)) (Below.ofTw HT1.out (Nat.le_of_lt R4.out.blk.lt) (Nat.le_refl _)))
          · have HE : Hid (trkR b x = .bad ug) := hide (by rw [HUG.out, ← HZ.out]; exact trkR_kid (k := 1) (by omega) HI.out.oks (kidR_bad (by omega) (by rw [HZ.out, ← HUK.out]; exact hkd)))
            have hne : (uk == [114, 97, 116, 101]) = false := by simpa using (show ¬ uk = [114, 97, 116, 101] from hkd)
            have HXP := hide (fun (W : World) (hW : Ext w2 W) => expect_bad ug (R2.out.ext hW).blk)
            go_region_held3 (fun W => W.cell? ⟨kb, 0, none⟩ = some (.string ⟨uk.toArray⟩) ∧ W.cell? ⟨kb, 1, none⟩ = some (.int .i64 (ug : Int)) ∧ W.cell? ⟨sb, 1, none⟩ = some (.string ⟨kRate.toArray⟩)) (first | go_keep | exact ⟨KB3.out.cell 0, KB3.out.cell 1, KS3.out.cell 1⟩) (((go_at_call 33; with_reducible refine (HXP.out _ (Ext.drew _)).mono ?_); rintro e w3 ⟨rfl, p1, p2⟩; have HB1 := hide p1; have HT1 := hide p2; have KB3 := hide (Blk.off (K2.out.ext (Ext.drew _)) (R2.out.ext (Ext.drew _)).blk p2 (by decide)); have KS3 := hide (Blk.off (T2.out.ext (Ext.drew _)) (R2.out.ext (Ext.drew _)).blk p2 (by decide)); clear p1 p2))
            go_wp2_with fail
            refine bodyPost_ret (v := .tuple #[]) (by simp [results, Try.results61, go_sem]) rfl ?_
            exact FtG.bad HE.out (KpF.chain HI.out.kp (KpF.chain (KpF.ofExt (Ext.trans E2.out (Ext.drew _))) (KpF.ofTw (R2.out.ext (Ext.drew _)).blk HT1.out))) (Below.chain HI.out.low (Below.chain (Below.ofExt (Ext.trans E2.out (Ext.drew _)) (Nat.le_of_lt HRD.out.blk.lt)) (Below.ofTw HT1.out (Nat.le_of_lt (R2.out.ext (Ext.drew _)).blk.lt) (Nat.le_refl _)))) HB1.out
        · skip
          have hnj : nn = 1 := by omega
          have HE : Hid (trkR b x = .bad x.en) := hide (trkR_kid (k := 1) (by omega) HI.out.oks (by unfold kidR; rw [List.getElem?_eq_none (by omega)]))
          have HXB := hide (expect_bad x.en HRD.out.blk)
          have LO2 := hide HI.out.lo2
          subst hnj
          have T0 := hide HI.out.trk
          go_wp2_with ((go_at_call 33; with_reducible refine HXB.out.mono ?_); rintro e wq ⟨rfl, p1, p2⟩; have BK := hide p1; have HT1 := hide p2; clear p1 p2)
          obtain ⟨nm, hnm⟩ : ∃ nm, nmK b x 1 = nm := ⟨_, rfl⟩
          obtain ⟨s, hs_⟩ : ∃ s, scK b x 1 = s := ⟨_, rfl⟩
          have TB := hide (Blk.off T0.out HRD.out.blk HT1.out (by decide))
          rw [hnm, hs_] at TB
          have OW := hide (HRD.out.trk.tw HT1.out (fun e => by have := (HRD.out.trk.lt _ e).1; omega) (by simp))
          have KPQ := hide (KpF.chain HI.out.kp (KpF.ofTw HRD.out.blk HT1.out))
          have LOQ := hide (Below.chain HI.out.low (Below.ofTw HT1.out (Nat.le_of_lt HRD.out.blk.lt) (Nat.le_refl _)))
          clear hnm hs_ x5 xf5 n3 n4
          have S1 : Hid (hs.length + 1 ≤ maxLen) := hide (by have := HR0.out.len; unfold maxLen; omega)
          have S2 : Hid ((hs.length + 1) * 72 ≤ 140737488355328) := hide (by have := HR0.out.len; omega)
          go_upto_region 26 with (fail)
          refine region_z (S := S26 rb tb tv nm s eA en ec) 11 (by kernel_rfl) ?_
          refine AnyZ.takeE (i := 0) (d := 143) (oi := _) (v := ?_) rfl rfl rfl (by kernel_rfl) (by kernel_rfl) (by kernel_rfl) (by kernel_rfl) (by kernel_rfl) (by kernel_rfl) (fun _ _ _ h => h) (Or.inl ⟨by rfl, ?_⟩) (S26.of (BK.out.ext (Ext.drew _)) (TB.out.ext (Ext.drew _))) ?_
          rotate_left
          · intro W hW; obtain ⟨s1, s2, s3, s4, s5⟩ := hW; first | (go_simp; done) | (go_simp; with_reducible rfl)
          try simp only [Act.put, List.setIfInBounds_toArray, List.set_cons_zero, List.set_cons_succ]
          refine AnyZ.takeE (i := 1) (d := 144) (oi := _) (v := ?_) rfl rfl rfl (by kernel_rfl) (by kernel_rfl) (by kernel_rfl) (by kernel_rfl) (by kernel_rfl) (by kernel_rfl) (fun _ _ _ h => h) (Or.inl ⟨by rfl, ?_⟩) (S26.of (BK.out.ext (Ext.drew _)) (TB.out.ext (Ext.drew _))) ?_
          rotate_left
          · intro W hW; obtain ⟨s1, s2, s3, s4, s5⟩ := hW; first | (go_simp; done) | (go_simp; with_reducible rfl)
          try simp only [Act.put, List.setIfInBounds_toArray, List.set_cons_zero, List.set_cons_succ]
          refine AnyZ.takeE (i := 2) (d := 145) (oi := _) (v := ?_) rfl rfl rfl (by kernel_rfl) (by kernel_rfl) (by kernel_rfl) (by kernel_rfl) (by kernel_rfl) (by kernel_rfl) (fun _ _ _ h => h) (Or.inl ⟨by rfl, ?_⟩) (S26.of (BK.out.ext (Ext.drew _)) (TB.out.ext (Ext.drew _))) ?_
          rotate_left
          · intro W hW; obtain ⟨s1, s2, s3, s4, s5⟩ := hW; first | (go_simp; done) | (go_simp; with_reducible rfl)
          try simp only [Act.put, List.setIfInBounds_toArray, List.set_cons_zero, List.set_cons_succ]
          refine AnyZ.takeE (i := 3) (d := 146) (oi := _) (v := ?_) rfl rfl rfl (by kernel_rfl) (by kernel_rfl) (by kernel_rfl) (by kernel_rfl) (by kernel_rfl) (by kernel_rfl) (fun _ _ _ h => h) (Or.inl ⟨by rfl, ?_⟩) (S26.of (BK.out.ext (Ext.drew _)) (TB.out.ext (Ext.drew _))) ?_
          rotate_left
          · intro W hW; obtain ⟨s1, s2, s3, s4, s5⟩ := hW; first | (go_simp; done) | (go_simp; with_reducible rfl)
          try simp only [Act.put, List.setIfInBounds_toArray, List.set_cons_zero, List.set_cons_succ]
          refine AnyZ.takeE (i := 4) (d := 147) (oi := _) (v := ?_) rfl rfl rfl (by kernel_rfl) (by kernel_rfl) (by kernel_rfl) (by kernel_rfl) (by kernel_rfl) (by kernel_rfl) (fun _ _ _ h => h) (Or.inl ⟨by rfl, ?_⟩) (S26.of (BK.out.ext (Ext.drew _)) (TB.out.ext (Ext.drew _))) ?_
          rotate_left
          · intro W hW; obtain ⟨s1, s2, s3, s4, s5⟩ := hW; first | (go_simp; done) | (go_simp; with_reducible rfl)
          try simp only [Act.put, List.setIfInBounds_toArray, List.set_cons_zero, List.set_cons_succ]
          refine AnyZ.takeE (i := 5) (d := 148) (oi := _) (v := ?_) rfl rfl rfl (by kernel_rfl) (by kernel_rfl) (by kernel_rfl) (by kernel_rfl) (by kernel_rfl) (by kernel_rfl) (fun _ _ _ h => h) (Or.inl ⟨by rfl, ?_⟩) (S26.of (BK.out.ext (Ext.drew _)) (TB.out.ext (Ext.drew _))) ?_
          rotate_left
          · intro W hW; obtain ⟨s1, s2, s3, s4, s5⟩ := hW; first | (go_simp; done) | (go_simp; with_reducible rfl)
          try simp only [Act.put, List.setIfInBounds_toArray, List.set_cons_zero, List.set_cons_succ]
          refine AnyZ.takeE (i := 6) (d := 149) (oi := _) (v := ?_) rfl rfl rfl (by kernel_rfl) (by kernel_rfl) (by kernel_rfl) (by kernel_rfl) (by kernel_rfl) (by kernel_rfl) (fun _ _ _ h => h) (Or.inl ⟨by rfl, ?_⟩) (S26.of (BK.out.ext (Ext.drew _)) (TB.out.ext (Ext.drew _))) ?_
          rotate_left
          · intro W hW; obtain ⟨s1, s2, s3, s4, s5⟩ := hW; first | (go_simp; done) | (go_simp; with_reducible rfl)
          try simp only [Act.put, List.setIfInBounds_toArray, List.set_cons_zero, List.set_cons_succ]
          refine AnyZ.step (i := 7) rfl (by kernel_rfl) (fun K hK => ?_)
          go_simp
          refine gen_hkT hK fun w3 hw3 => ?_
          have E3 : Hid (Ext wq w3) := hide (by rw [hw3]; exact Ext.trans (Ext.drew _) (Ext.alloc _ _))
          have A3 : Hid (At w3 4 eTk (some ⟨wq.drew.heap.size, 0, none⟩) 1 1 [(⟨nm, s, none, 0, 0, eA, en, ec⟩ : TrkH)]) := hide (by rw [hw3]; exact At.newE (enc := eTk) wq.drew _ _ _ rfl)
          refine ⟨fun h => S26.of (BK.out.ext E3.out) (TB.out.ext E3.out), ?_⟩
          clear hK K hw3
          try simp only [Act.put, List.setIfInBounds_toArray, List.set_cons_zero, List.set_cons_succ]
          refine AnyZ.step (i := 8) rfl (by kernel_rfl) (fun K hK => ?_)
          have S3 : Hid (rb + 1 ≤ w3.heap.size) := hide (by have := BK.out.lt; have := E3.out.size; omega)
          refine step_append_at rfl _ _ 22 rfl (rb + 1) 53 k0_ _ 72 Try.underlying22 hk0 hx0 hx1 hx2 rfl (by omega) len_eTk one_eTk tv hs (by rfl) (OW.out.ext E3.out) (some ⟨wq.drew.heap.size, 0, none⟩) 1 1 _ (by rfl) A3.out S1.out S2.out S3.out ?_
          intro v7 w7 o7 g7 _ r7
          obtain ⟨A7, c7, hv7, _⟩ := o7.at_ len_eTk
          obtain ⟨n7, hn7⟩ : ∃ n7, (hs ++ [(⟨nm, s, none, 0, 0, eA, en, ec⟩ : TrkH)]).length = n7 := ⟨_, rfl⟩
          rw [hn7] at hv7
          subst hv7
          have O7 := hide o7
          have G7 := hide g7
          have RR7 := hide r7
          have hRB := BK.out.ext E3.out
          have hTB := TB.out.ext E3.out
          have HAP := OW.out.ext E3.out
          have B7 : Hid (Blk w7 rb 85 _) := hide ((g7.block rb hRB.lt (fun e => HAP.apartB hRB (by decide) e.symm)).trans hRB)
          have T7 : Hid (Blk w7 tb 53 _) := hide ((g7.block tb hTB.lt (fun e => by have := (HR0.out.trk.lt tb e.symm).2; have := LO2.out; omega)).trans hTB)
          have k7 : w7.cell? ⟨rb, 2, none⟩ = some tv := B7.out.cell 2
          have f7 := B7.out.frozen 2
          clear o7 g7 r7 hn7 hRB HAP hTB
          refine hK.out _ _ (fun h => S26.of B7.out T7.out) ?_
          clear hK K
          try simp only [Act.put, List.setIfInBounds_toArray, List.set_cons_zero, List.set_cons_succ]
          refine AnyZ.step (i := 9) rfl (by kernel_rfl) (fun K hK => ?_)
          go_simp
          refine hK.out _ _ (fun h => ?_) ?_
          · exact S26.of B7.out T7.out
          clear hK K
          try simp only [Act.put, List.setIfInBounds_toArray, List.set_cons_zero, List.set_cons_succ]
          refine AnyZ.step (i := 10) rfl (by kernel_rfl) (fun K hK => ?_)
          go_simp
          refine hK.out _ _ (fun h => ?_) ?_
          · exact S26.of B7.out T7.out
          clear hK K
          try simp only [Act.put, List.setIfInBounds_toArray, List.set_cons_zero, List.set_cons_succ]
          refine AnyZ.step (i := 11) rfl (by kernel_rfl) (fun K hK => ?_)
          go_simp
          refine hK.out _ _ (fun h => ?_) ?_
          · exact absurd (h.symm.trans (show _ = true by kernel_rfl)) (by simp)
          clear hK K
          try simp only [Act.put, List.setIfInBounds_toArray, List.set_cons_zero, List.set_cons_succ]
          refine AnyZ.step (i := 12) rfl (by kernel_rfl) (fun K hK => ?_)
          go_simp
          refine hK.out _ _ (fun h => ?_) ?_
          · exact absurd (h.symm.trans (show _ = true by kernel_rfl)) (by simp)
          clear hK K
          try simp only [Act.put, List.setIfInBounds_toArray, List.set_cons_zero, List.set_cons_succ]
          refine AnyZ.done (by kernel_rfl) ?_ _
          clear k7 f7
          go_wp2_with fail
          refine bodyPost_ret (v := .tuple #[]) (by simp [results, Try.results61, go_sem]) rfl ?_
          have hT8 := Tw.set_ w7 rb 2 (.slice A7 n7 c7) none
          have hB8 := B7.out.set_ 2 (.slice A7 n7 c7)
          have hKP : KpF w (w7.setCell ⟨rb, 2, none⟩ (.slice A7 n7 c7)) := KpF.chain KPQ.out (fun t cs h1 h2 _ g hb => by
            have hb2 : Blk w3 g t cs := hb.ext E3.out
            exact Blk.off ((G7.out.block g hb2.lt (fun e => (OW.out.ext E3.out).apartB hb2 (Ne.symm h2) e.symm)).trans hb2) B7.out hT8 h1)
          have hLO : Below rb w (w7.setCell ⟨rb, 2, none⟩ (.slice A7 n7 c7)) := Below.chain LOQ.out (Below.chain (Below.ofExt E3.out (Nat.le_of_lt BK.out.lt)) (Below.chain ((Below.refl rb w3).grown G7.out (by have := S3.out; omega) (fun g e => by have := (OW.out.lt g e).1; omega)) (Below.ofTw hT8 (Nat.le_of_lt B7.out.lt) (Nat.le_refl _))))
          exact FtG.bad HE.out hKP hLO hB8
      case inr.inr.inl =>
        have HEX := hide (HI.out.ext (by omega)).1
        have HRD := hide (HR0.out.ext HEX.out)
        have x5 : wl.cell? ⟨rb, 5, none⟩ = some (.int .i64 (-1)) := HRD.out.blk.cell 5
        have xf5 := HRD.out.blk.frozen 5
        by_cases hlt : 2 < nn
        · obtain ⟨oA, pA, rfl, _⟩ := HPO.out.at_.addr (by omega)
          have hd := HPO.out.hd 2 hlt
          have hat := HPO.out.at_
          obtain ⟨z, hz⟩ : ∃ z, x.kids.getD 2 dN = z := ⟨_, rfl⟩
          obtain ⟨u, hu⟩ : ∃ u, ks.getD 2 default = u := ⟨_, rfl⟩
          rw [hz, hu] at hd
          have hwz := HWF.out.at_ (i := 2) (by omega)
          rw [show x.kids.getD 2 (.mk [] 0 0 0 0 []) = z from hz] at hwz
          obtain ⟨uk, ug, ud, ue, uA, un, uc⟩ := u
          have a0 : wl.cell? ⟨oA, pA + 10, none⟩ = some (.string ⟨uk.toArray⟩) := by simpa [Nat.add_assoc] using hat.cellK (k := 2) hlt default 0 _ (by rw [hu]; rfl)
          have a1 : wl.cell? ⟨oA, pA + 11, none⟩ = some (.int .i64 (ug : Int)) := by simpa [Nat.add_assoc] using hat.cellK (k := 2) hlt default 1 _ (by rw [hu]; rfl)
          have a2 : wl.cell? ⟨oA, pA + 12, none⟩ = some (.int .i64 (ud : Int)) := by simpa [Nat.add_assoc] using hat.cellK (k := 2) hlt default 2 _ (by rw [hu]; rfl)
          have a3 : wl.cell? ⟨oA, pA + 13, none⟩ = some (.int .i64 (ue : Int)) := by simpa [Nat.add_assoc] using hat.cellK (k := 2) hlt default 3 _ (by rw [hu]; rfl)
          have a4 : wl.cell? ⟨oA, pA + 14, none⟩ = some (.slice uA un uc) := by simpa [Nat.add_assoc] using hat.cellK (k := 2) hlt default 4 _ (by rw [hu]; rfl)
          have HUK : Hid (uk = z.kind) := hide hd.kind
          have HUG : Hid (ug = z.beg) := hide hd.beg
          have hud : ud = z.dat := hd.dat
          have hue : ue = z.en := hd.en
          have HZ := hide hz
          have HUD := hide hud
          have HUE := hide hue
          have hde : ud ≤ ue := by omega
          have hel : ue ≤ bn := by omega
          have i1 : ((2 : Nat) : Int) < (nn : Int) := by omega
          clear hd hat hz hu hwz hud hue
          go_upto_region 7 with (fail)
          refine gen_wpC fun w2 h2 => ?_
          obtain ⟨kb, hkb2⟩ : ∃ kb, kb = wl.heap.size := ⟨_, rfl⟩
          rw [← hkb2]
          have E2 : Hid (Ext wl w2) := hide (by rw [h2]; exact Ext.alloc _ _)
          have K2 : Hid (Blk w2 kb 87 #[.string ⟨uk.toArray⟩, .int .i64 (ug : Int), .int .i64 (ud : Int), .int .i64 (ue : Int), .slice uA un uc]) := hide (by rw [h2, hkb2]; exact Blk.new _ _ _)
          have R2 := hide (HRD.out.ext E2.out)
          have T2 := hide (HI.out.str.ext E2.out)
          clear h2 hkb2 a0 a1 a2 a3 a4 x5 xf5
          have k0 : w2.cell? ⟨kb, 0, none⟩ = some (.string ⟨uk.toArray⟩) := K2.out.cell 0
          have k1 : w2.cell? ⟨kb, 1, none⟩ = some (.int .i64 (ug : Int)) := K2.out.cell 1
          have t0 : w2.cell? ⟨sb, 2, none⟩ = some (.string ⟨kEdit.toArray⟩) := T2.out.cell 2
          have hmn : min (2 : Int) 3 = 2 := by decide
          by_cases hkd : uk = kEdit
          · subst hkd
            have HXP := hide (fun (W : World) (hW : Ext w2 W) => expect_good (ug : Int) (R2.out.ext hW).blk)
            go_region_held3 (fun W => W.cell? ⟨kb, 0, none⟩ = some (.string ⟨kEdit.toArray⟩) ∧ W.cell? ⟨kb, 1, none⟩ = some (.int .i64 (ug : Int)) ∧ W.cell? ⟨sb, 2, none⟩ = some (.string ⟨kEdit.toArray⟩)) (first | go_keep) (((go_at_call 33; with_reducible refine (HXP.out _ (Ext.drew _)).mono ?_); rintro e w' ⟨rfl, rfl⟩))
            obtain ⟨w3, hw3⟩ : ∃ w3, w3 = w2.drew := ⟨_, rfl⟩
            rw [← hw3]
            have E3 : Hid (Ext wl w3) := hide (by rw [hw3]; exact Ext.trans E2.out (Ext.drew _))
            have K3 := hide (K2.out.ext (show Ext w2 w3 by rw [hw3]; exact Ext.drew _))
            clear hw3 k0 k1 t0
            have R3 := hide (HRD.out.ext E3.out)
            have HB3 := hide (HB0.out.ext (Ext.trans HEX.out E3.out))
            obtain ⟨cA, hr, ha⟩ := HB3.out.range_ Try.underlying26 (fun _ => by kernel_rfl) (k := ud) (m := ue) hde hel (ud : Int) (ue : Int) rfl rfl
            obtain ⟨cn, hcn⟩ : ∃ cn, ue - ud = cn := ⟨_, rfl⟩
            obtain ⟨cc, hcc⟩ : ∃ cc, bc - ud = cc := ⟨_, rfl⟩
            rw [hcn, hcc] at hr ha
            obtain ⟨C, hC⟩ : ∃ C, ctB b (x.kids.getD 2 dN) = C := ⟨_, rfl⟩
            have hCC : (b.drop ud).take cn = C := by rw [← hC, HZ.out, ← hcn, HUD.out, HUE.out]; rfl
            rw [hCC] at ha
            have hat3 := ha w3 HB3.out
            have HAX := hide ha
            have HC := hide hC
            have hlc := hat3.len
            have hlm := hat3.bound
            have HDA := hide (fun (W : World) (hW : Ext w3 W) => hat3.ext hW)
            have HKR : Hid (kidR x.kids 2 (kK 2) x.en = .ok (x.kids.getD 2 dN)) := hide (kidR_good (by omega) (by rw [HZ.out, ← HUK.out]; rfl))
            have c0 : w3.cell? ⟨rb, 0, none⟩ = some (.slice bA bn bc) := R3.out.blk.cell 0
            have k2 : w3.cell? ⟨kb, 2, none⟩ = some (.int .i64 (ud : Int)) := K3.out.cell 2
            have k3 : w3.cell? ⟨kb, 3, none⟩ = some (.int .i64 (ue : Int)) := K3.out.cell 3
            have hC6 : C.length ≤ 1000000 := by rw [← hC]; exact Nat.le_trans (ctB_le b _) HBL.out
            have HC6 := hide hC6
            clear ha hat3 hC hCC hC6 hcn hcc
            go_upto_region 8 with (fail)
            go_region
            clear hr c0 k2 k3
            obtain ⟨w4, hw4⟩ : ∃ w4, w4 = w3.drew := ⟨_, rfl⟩
            rw [← hw4]
            have E4 : Hid (Ext wl w4) := hide (by rw [hw4]; exact Ext.trans E3.out (Ext.drew _))
            have K4 := hide (K3.out.ext (show Ext w3 w4 by rw [hw4]; exact Ext.drew _))
            have HD4 := hide (HDA.out w4 (by rw [hw4]; exact Ext.drew _))
            have R4 := hide (HRD.out.ext E4.out)
            have T4 := hide (HI.out.trk.ext E4.out)
            have O4 := hide (HI.out.ed.ext E4.out)
            clear hw4 HDA
            have k1 : w4.cell? ⟨kb, 1, none⟩ = some (.int .i64 (ug : Int)) := K4.out.cell 1
            have HLO := hide HI.out.lo2
            by_cases h16 : cn % 16 = 0
            · have H16 := hide h16
              have hrem : Int.tmod (cn : Int) 16 = 0 := by rw [Int.tmod_eq_emod_of_nonneg (by omega)]; omega
              have HXG := hide (expect_good (ug : Int) R4.out.blk)
              have E4W : Hid (Ext w w4) := hide (Ext.trans HEX.out E4.out)
              have Q0 : Hid (EdF w w4 w4 tb (nmK b x 2) (scK b x 2) C 0 eA en ec) := hide ⟨T4.out, O4.out, E4W.out, fun _ _ _ _ _ h => h⟩
              go_wp2_with ((go_at_call 33; with_reducible refine HXG.out.mono ?_); rintro e w' ⟨rfl, rfl⟩)
              go_loopw [9] (fun r9 wx => ∃ (q : Nat) (eA' : Option Addr) (en' ec' : Nat), r9 = .int .i64 ((16 * q : Nat) : Int) ∧ 16 * q ≤ cn ∧ Hid (EdF w w4 wx tb (nmK b x 2) (scK b x 2) C q eA' en' ec')) (fun r9 _ => cn - (intOf r9).toNat)
              case atStart => exact ⟨0, _, _, _, by simp, by omega, Q0⟩
              case round =>
                clear Q0 k1
                obtain ⟨q, eA', en', ec', rfl, hq, HQ⟩ := hrel
                by_cases hlq : 16 * q < cn
                · have hat := HD4.out
                  have hcc := hat.le
                  obtain ⟨cb, co, rfl, _⟩ := hat.addr (by omega)
                  have HED : Hid (edK C (q + 1) = edK C q ++ [(sgn8 (cutB C (16 * q) (16 * q + 8)), sgn8 (cutB C (16 * q + 8) (16 * q + 16)))]) := hide rfl
                  have hX1 : (cutB C (16 * q) (16 * q + 8)).length = 8 := by unfold cutB; rw [List.length_take, List.length_drop]; omega
                  have hX2 : (cutB C (16 * q + 8) (16 * q + 16)).length = 8 := by unfold cutB; rw [List.length_take, List.length_drop]; omega
                  have HS1 := hide (sgnR_8 hX1)
                  have HS2 := hide (sgnR_8 hX2)
                  have HDX := hide (fun (W : World) (hW : Ext wr W) => HAX.out W (HB0.out.ext (Ext.trans HQ.out.ext hW)))
                  obtain ⟨N, hN⟩ : ∃ N, 16 * q = N := ⟨_, rfl⟩
                  rw [hN] at HED HS1 HS2 hlq hq ⊢
                  have hN16 : N + 16 ≤ cn := by omega
                  have n8 : IntKind.i64.wrap ((N : Int) + 8) = (N : Int) + 8 := by rw [IntKind.wrap_i64]; omega
                  have n16 : IntKind.i64.wrap ((N : Int) + 16) = (N : Int) + 16 := by rw [IntKind.wrap_i64]; omega
                  have t8 : ((N : Int) + 8).toNat = N + 8 := by omega
                  have t16 : ((N : Int) + 16).toNat = N + 16 := by omega
                  have m0 : (0 : Int) ≤ (N : Int) := by omega
                  have m1 : (N : Int) < (cn : Int) := by omega
                  have m2 : (0 : Int) ≤ (N : Int) + 8 := by omega
                  have m3 : (N : Int) ≤ (N : Int) + 8 := by omega
                  have m4 : (N : Int) + 8 ≤ (cc : Int) := by omega
                  have m5 : (N : Int) + 8 ≤ (N : Int) + 16 := by omega
                  have m6 : (N : Int) + 16 ≤ (cc : Int) := by omega
                  have m7 : (0 : Int) ≤ (N : Int) + 16 := by omega
                  have m8 : ¬ cc = N := by omega
                  have m9 : ¬ cc = N + 8 := by omega
                  have HN1 := hide (fun (W : World) (hW : Ext wr W) => signed_any (l := cutB C N (N + 8)) (show At W 1 e8 (some ⟨cb, co + N, none⟩) 8 (cc - N) _ from by
                    have h1 := ((HDX.out W hW).cutAt (k := N) (by omega) (by omega)).upto (k := 8) (by omega)
                    rw [Nat.mul_one] at h1
                    unfold cutB; rw [show N + 8 - N = 8 by omega]; exact h1) (by omega))
                  have HN2 := hide (fun (W : World) (hW : Ext wr W) => signed_any (l := cutB C (N + 8) (N + 16)) (show At W 1 e8 (some ⟨cb, co + (N + 8), none⟩) 8 (cc - (N + 8)) _ from by
                    have h1 := ((HDX.out W hW).cutAt (k := N + 8) (by omega) (by omega)).upto (k := 8) (by omega)
                    rw [Nat.mul_one] at h1
                    unfold cutB; rw [show N + 16 - (N + 8) = 8 by omega]; exact h1) (by omega))
                  rw [HS1.out] at HN1
                  rw [HS2.out] at HN2
                  generalize sgn8 (cutB C N (N + 8)) = p1 at *
                  generalize sgn8 (cutB C (N + 8) (N + 16)) = p2 at *
                  have hen2 : (edK C q).length = q := edK_len C q
                  have t3 : wr.cell? ⟨tb, 3, none⟩ = some (.slice eA' en' ec') := HQ.out.trk.cell 3
                  have tf := HQ.out.trk.frozen 3
                  have hlk2 : (edK C q).length ≤ 1000000 := by have := HC6.out; omega
                  have HNOT := hide (show (Value.slice eA' en' ec').ownBlock ≠ some tb from HQ.out.ed.apartB HQ.out.trk (by decide))
                  have HT3 := hide HQ.out.trk
                  have S1 : Hid ((edK C q).length + 1 ≤ maxLen) := hide (by unfold maxLen; omega)
                  have S2 : Hid (((edK C q).length + 1) * 16 ≤ 140737488355328) := hide (by omega)
                  have S3 : Hid (w.heap.size ≤ (wr.drew.alloc (.cells #[.int .i64 p1, .int .i64 p2] 95)).heap.size) := hide (by have := HQ.out.ext.size; rw [World.size_alloc]; show w.heap.size ≤ wr.heap.size + 1; omega)
                  have HNQ := hide hN
                  clear hat hX1 hX2 hen2 hlk2 hN
                  go_upto_region 20 with (fail)
                  refine region_z (S := fun W => W.cell? ⟨tb, 3, none⟩ = some (.slice eA' en' ec')) 18 (by kernel_rfl) ?_
                  refine AnyZ.takeE (i := 0) (d := 93) (oi := _) (v := ?_) rfl rfl rfl (by kernel_rfl) (by kernel_rfl) (by kernel_rfl) (by kernel_rfl) (by kernel_rfl) (by kernel_rfl) (fun _ _ _ h => h) (Or.inl ⟨by rfl, ?_⟩) ((Ext.drew _).cell t3) ?_
                  rotate_left
                  · intro W hW; obtain s1 := hW; first | (go_simp; done) | (go_simp; with_reducible rfl)
                  try simp only [Act.put, List.setIfInBounds_toArray, List.set_cons_zero, List.set_cons_succ]
                  refine AnyZ.takeE (i := 1) (d := 94) (oi := _) (v := ?_) rfl rfl rfl (by kernel_rfl) (by kernel_rfl) (by kernel_rfl) (by kernel_rfl) (by kernel_rfl) (by kernel_rfl) (fun _ _ _ h => h) (Or.inl ⟨by rfl, ?_⟩) ((Ext.drew _).cell t3) ?_
                  rotate_left
                  · intro W hW; obtain s1 := hW; first | (go_simp; done) | (go_simp; with_reducible rfl)
                  try simp only [Act.put, List.setIfInBounds_toArray, List.set_cons_zero, List.set_cons_succ]
                  refine AnyZ.takeE (i := 2) (d := 95) (oi := _) (v := ?_) rfl rfl rfl (by kernel_rfl) (by kernel_rfl) (by kernel_rfl) (by kernel_rfl) (by kernel_rfl) (by kernel_rfl) (fun _ _ _ h => h) (Or.inl ⟨by rfl, ?_⟩) ((Ext.drew _).cell t3) ?_
                  rotate_left
                  · intro W hW; obtain s1 := hW; first | (go_simp; done) | (go_simp; with_reducible rfl)
                  try simp only [Act.put, List.setIfInBounds_toArray, List.set_cons_zero, List.set_cons_succ]
                  refine AnyZ.takeE (i := 3) (d := 96) (oi := _) (v := ?_) rfl rfl rfl (by kernel_rfl) (by kernel_rfl) (by kernel_rfl) (by kernel_rfl) (by kernel_rfl) (by kernel_rfl) (fun _ _ _ h => h) (Or.inl ⟨by rfl, ?_⟩) ((Ext.drew _).cell t3) ?_
                  rotate_left
                  · intro W hW; obtain s1 := hW; first | (go_simp; done) | (go_simp; with_reducible rfl)
                  try simp only [Act.put, List.setIfInBounds_toArray, List.set_cons_zero, List.set_cons_succ]
                  refine AnyZ.takeE (i := 4) (d := 97) (oi := _) (v := ?_) rfl rfl rfl (by kernel_rfl) (by kernel_rfl) (by kernel_rfl) (by kernel_rfl) (by kernel_rfl) (by kernel_rfl) (fun _ _ _ h => h) (Or.inl ⟨by rfl, ?_⟩) ((Ext.drew _).cell t3) ?_
                  rotate_left
                  · intro W hW; obtain s1 := hW; first | (go_simp; done) | (go_simp; with_reducible rfl)
                  try simp only [Act.put, List.setIfInBounds_toArray, List.set_cons_zero, List.set_cons_succ]
                  refine AnyZ.takeE (i := 5) (d := 98) (oi := _) (v := ?_) rfl rfl rfl (by kernel_rfl) (by kernel_rfl) (by kernel_rfl) (by kernel_rfl) (by kernel_rfl) (by kernel_rfl) (fun _ _ _ h => h) (Or.inl ⟨by rfl, ?_⟩) ((Ext.drew _).cell t3) ?_
                  rotate_left
                  · intro W hW; obtain s1 := hW; first | (go_simp; done) | (go_simp; with_reducible rfl)
                  try simp only [Act.put, List.setIfInBounds_toArray, List.set_cons_zero, List.set_cons_succ]
                  refine AnyZ.takeE (i := 6) (d := 99) (oi := _) (v := ?_) rfl rfl rfl (by kernel_rfl) (by kernel_rfl) (by kernel_rfl) (by kernel_rfl) (by kernel_rfl) (by kernel_rfl) (fun _ _ _ h => h) (Or.inl ⟨by rfl, ?_⟩) ((Ext.drew _).cell t3) ?_
                  rotate_left
                  · intro W hW; obtain s1 := hW; first | (go_simp; done) | (go_simp; with_reducible rfl)
                  try simp only [Act.put, List.setIfInBounds_toArray, List.set_cons_zero, List.set_cons_succ]
                  refine AnyZ.takeE (i := 8) (d := 101) (oi := _) (v := ?_) rfl rfl rfl (by kernel_rfl) (by kernel_rfl) (by kernel_rfl) (by kernel_rfl) (by kernel_rfl) (by kernel_rfl) (fun _ _ _ h => h) (Or.inl ⟨by rfl, ?_⟩) ((Ext.drew _).cell t3) ?_
                  rotate_left
                  · intro W hW; obtain s1 := hW; first | (go_simp; done) | (go_simp; with_reducible rfl)
                  try simp only [Act.put, List.setIfInBounds_toArray, List.set_cons_zero, List.set_cons_succ]
                  refine AnyZ.takeE (i := 9) (d := 102) (oi := _) (v := ?_) rfl rfl rfl (by kernel_rfl) (by kernel_rfl) (by kernel_rfl) (by kernel_rfl) (by kernel_rfl) (by kernel_rfl) (fun _ _ _ h => h) (Or.inl ⟨by rfl, ?_⟩) ((Ext.drew _).cell t3) ?_
                  rotate_left
                  · intro W hW; obtain s1 := hW; first | (go_simp; done) | (go_simp; with_reducible rfl)
                  try simp only [Act.put, List.setIfInBounds_toArray, List.set_cons_zero, List.set_cons_succ]
                  refine AnyZ.takeE (i := 10) (d := 103) (oi := _) (v := ?_) rfl rfl rfl (by kernel_rfl) (by kernel_rfl) (by kernel_rfl) (by kernel_rfl) (by kernel_rfl) (by kernel_rfl) (fun _ _ _ h => h) (Or.inl ⟨by rfl, ?_⟩) ((Ext.drew _).cell t3) ?_
                  rotate_left
                  · intro W hW; obtain s1 := hW; first | (go_simp; done) | (go_simp; with_reducible rfl)
                  try simp only [Act.put, List.setIfInBounds_toArray, List.set_cons_zero, List.set_cons_succ]
                  refine AnyZ.takeE (i := 11) (d := 104) (oi := _) (v := ?_) rfl rfl rfl (by kernel_rfl) (by kernel_rfl) (by kernel_rfl) (by kernel_rfl) (by kernel_rfl) (by kernel_rfl) (fun _ _ _ h => h) (Or.inl ⟨by rfl, ?_⟩) ((Ext.drew _).cell t3) ?_
                  rotate_left
                  · intro W hW; obtain s1 := hW; first | (go_simp; done) | (go_simp; with_reducible rfl)
                  try simp only [Act.put, List.setIfInBounds_toArray, List.set_cons_zero, List.set_cons_succ]
                  refine AnyZ.takeE (i := 12) (d := 105) (oi := _) (v := ?_) rfl rfl rfl (by kernel_rfl) (by kernel_rfl) (by kernel_rfl) (by kernel_rfl) (by kernel_rfl) (by kernel_rfl) (fun _ _ _ h => h) (Or.inl ⟨by rfl, ?_⟩) ((Ext.drew _).cell t3) ?_
                  rotate_left
                  · intro W hW; obtain s1 := hW; first | (go_simp; done) | (go_simp; with_reducible rfl)
                  try simp only [Act.put, List.setIfInBounds_toArray, List.set_cons_zero, List.set_cons_succ]
                  refine AnyZ.takeE (i := 13) (d := 106) (oi := _) (v := ?_) rfl rfl rfl (by kernel_rfl) (by kernel_rfl) (by kernel_rfl) (by kernel_rfl) (by kernel_rfl) (by kernel_rfl) (fun _ _ _ h => h) (Or.inl ⟨by rfl, ?_⟩) ((Ext.drew _).cell t3) ?_
                  rotate_left
                  · intro W hW; obtain s1 := hW; first | (go_simp; done) | (go_simp; with_reducible rfl)
                  try simp only [Act.put, List.setIfInBounds_toArray, List.set_cons_zero, List.set_cons_succ]
                  refine AnyZ.step (i := 7) rfl (by kernel_rfl) (fun K hK => ?_)
                  go_simp
                  go_at_call 89
                  refine (HN1.out _ (Ext.drew _)).mono ?_
                  rintro e w' ⟨rfl, rfl⟩
                  refine hK.out _ _ (fun h => ((Ext.drew _).cell t3)) ?_
                  clear hK K
                  try simp only [Act.put, List.setIfInBounds_toArray, List.set_cons_zero, List.set_cons_succ]
                  refine AnyZ.step (i := 14) rfl (by kernel_rfl) (fun K hK => ?_)
                  go_simp
                  go_at_call 89
                  refine (HN2.out _ (Ext.drew _)).mono ?_
                  rintro e w' ⟨rfl, rfl⟩
                  refine hK.out _ _ (fun h => ((Ext.drew _).cell t3)) ?_
                  clear hK K
                  try simp only [Act.put, List.setIfInBounds_toArray, List.set_cons_zero, List.set_cons_succ]
                  refine AnyZ.takeE (i := 15) (d := 108) (oi := _) (v := ?_) rfl rfl rfl (by kernel_rfl) (by kernel_rfl) (by kernel_rfl) (by kernel_rfl) (by kernel_rfl) (by kernel_rfl) (fun _ _ _ h => h) (Or.inl ⟨by rfl, ?_⟩) ((Ext.drew _).cell t3) ?_
                  rotate_left
                  · intro W hW; obtain s1 := hW; first | (go_simp; done) | (go_simp; with_reducible rfl)
                  try simp only [Act.put, List.setIfInBounds_toArray, List.set_cons_zero, List.set_cons_succ]
                  refine AnyZ.step (i := 16) rfl (by kernel_rfl) (fun K hK => ?_)
                  go_simp
                  refine hK.out _ _ (fun h => (Ext.alloc _ _).cell ((Ext.drew _).cell t3)) ?_
                  clear hK K
                  try simp only [Act.put, List.setIfInBounds_toArray, List.set_cons_zero, List.set_cons_succ]
                  refine AnyZ.step (i := 17) rfl (by kernel_rfl) (fun K hK => ?_)
                  refine step_append_at rfl (.tmp 94) (.tmp 109) 51 rfl w.heap.size 95 i0_ _ 16 Try.underlying51 hi0 hz0 hz1 hz2 rfl (by omega) len_e2 one_e2 _ _ (by rfl) (HQ.out.ed.ext (Ext.trans (Ext.drew _) (Ext.alloc _ _))) (some ⟨wr.drew.heap.size, 0, none⟩) 1 1 [(p1, p2)] (by rfl) (At.pair1 wr.drew p1 p2 _) S1.out S2.out S3.out ?_
                  intro v7 w7 o7 g7 _ _
                  obtain ⟨A7, c7, hv7, _⟩ := o7.at_ len_e2
                  obtain ⟨n7, hn7⟩ : ∃ n7, (edK C q ++ [(p1, p2)]).length = n7 := ⟨_, rfl⟩
                  rw [hn7] at hv7
                  subst hv7
                  have O7 := hide o7
                  have T7 := hide (show Blk w7 tb _ _ from (g7.block tb (HT3.out.ext (Ext.trans (Ext.drew _) (Ext.alloc _ _))).lt (fun e => HNOT.out e.symm)).trans (HT3.out.ext (Ext.trans (Ext.drew _) (Ext.alloc _ _))))
                  have k7 : w7.cell? ⟨tb, 3, none⟩ = some (.slice eA' en' ec') := T7.out.cell 3
                  have f7 := T7.out.frozen 3
                  have E7 : Hid (Ext w w7) := hide (Own.below (HQ.out.ed.ext (Ext.trans (Ext.drew _) (Ext.alloc _ _))) (Ext.trans HQ.out.ext (Ext.trans (Ext.drew _) (Ext.alloc _ _))) g7 (Nat.le_refl _))
                  have KP7 := hide (fun (t : TypeId) (cs : Array Value) (h1 : t ≠ 53) (h2 : t ≠ 95) (g : Nat) (hb : Blk w4 g t cs) => (show Blk w7 g t cs from by
                    have hb2 : Blk (wr.drew.alloc (.cells #[.int .i64 p1, .int .i64 p2] 95)) g t cs := (HQ.out.keep t cs h1 h2 g hb).ext (Ext.trans (Ext.drew _) (Ext.alloc _ _))
                    exact (g7.block g hb2.lt (fun e => (HQ.out.ed.ext (Ext.trans (Ext.drew _) (Ext.alloc _ _))).apartB hb2 (Ne.symm h2) e.symm)).trans hb2))
                  clear o7 g7 hn7
                  refine hK.out _ _ (fun h => k7) ?_
                  clear hK K
                  try simp only [Act.put, List.setIfInBounds_toArray, List.set_cons_zero, List.set_cons_succ]
                  refine AnyZ.step (i := 18) rfl (by kernel_rfl) (fun K hK => ?_)
                  go_simp
                  refine hK.out _ _ (fun h => ?_) ?_
                  · exact absurd (h.symm.trans (show _ = true by kernel_rfl)) (by simp)
                  clear hK K
                  try simp only [Act.put, List.setIfInBounds_toArray, List.set_cons_zero, List.set_cons_succ]
                  refine AnyZ.step (i := 19) rfl (by kernel_rfl) (fun K hK => ?_)
                  go_simp
                  refine hK.out _ _ (fun h => ?_) ?_
                  · exact absurd (h.symm.trans (show _ = true by kernel_rfl)) (by simp)
                  clear hK K
                  try simp only [Act.put, List.setIfInBounds_toArray, List.set_cons_zero, List.set_cons_succ]
                  refine AnyZ.done (by kernel_rfl) ?_ _
                  clear k7 f7 t3 tf
                  go_wp2_with fail
                  have hNN := HNQ.out
                  go_roundw
                  case measure => simp [intOf]; omega
                  first | (refine (?_ : ∃ (_ : Nat), _)) | ((repeat apply Exists.intro); refine ⟨?_, rfl⟩)
                  refine ⟨q + 1, _, _, _, by go_num, by omega, hide ⟨T7.out.set_ 3 _, ?_, tw_ext' E7.out (Tw.set_ _ _ _ _ _) HLO.out.2.1, ?_⟩⟩
                  · rw [HED.out]; exact O7.out.tw (Tw.set_ w7 tb 3 _ none) (O7.out.apartB T7.out (by decide)) (by simp)
                  · intro t cs h1 h2 g hb
                    exact Blk.off (KP7.out t cs h1 h2 g hb) T7.out (Tw.set_ w7 tb 3 _ none) h1
                · have hqe : 16 * q = cn := by omega
                  have m1 : ¬ ((16 * q : Nat) : Int) < (cn : Int) := by omega
                  have HQE := hide hqe
                  have HCL := hide hlc
                  clear hqe hlq
                  go_wp2_with fail
                  go_roundw
                  case measure => simp [intOf]
                  first | (refine (?_ : ∃ (_ : Nat), _)) | ((repeat apply Exists.intro); refine ⟨?_, rfl⟩)
                  have hC := HC.out
                  subst hC
                  have hqn : (ctB b (x.kids.getD 2 dN)).length / 16 = q := by have := HCL.out; have := HQE.out; omega
                  refine ⟨3, by go_num, by omega, .inl ⟨bv', eA', en', ec', by omega, hide ?_⟩⟩
                  refine HI.out.next (by omega) hrb HQ.out.ext (fun t cs h1 h2 g hb => HQ.out.keep t cs h1 h2 g (hb.ext E4.out)) HQ.out.trk ?_ ⟨HKR.out, by show (ctB b (x.kids.getD 2 dN)).length % 16 = 0; rw [HCL.out]; exact H16.out⟩
                  show Own wr w.heap.size 95 2 e2 _ (edK (ctB b (x.kids.getD 2 dN)) ((ctB b (x.kids.getD 2 dN)).length / 16))
                  rw [hqn]; exact HQ.out.ed
            · have HE : Hid (trkR b x = .bad ug) := hide (by rw [HUG.out, ← HZ.out]; exact trkR_chk (k := 2) (by omega) HI.out.oks HKR.out (by show ¬ (ctB b (x.kids.getD 2 dN)).length % 16 = 0; rw [HC.out, hlc]; exact h16))
              have HXB := hide (expect_bad ug R4.out.blk)
              have hrem : Int.tmod (cn : Int) 16 = ((cn % 16 : Nat) : Int) := by rw [Int.tmod_eq_emod_of_nonneg (by omega)]; omega
              generalize cn % 16 = rr at *
              have hne : ¬ ((rr : Int) = 0) := by omega
              have hnb : ((rr : Int) == 0) = false := by simpa using hne
              have hnc : (rr == 0) = false := by simpa using h16
              go_wp2_with ((go_at_call 33; with_reducible refine HXB.out.mono ?_); rintro e w5 ⟨rfl, p1, p2⟩; have HB1 := hide p1; have HT1 := hide p2; clear p1 p2)
              go_roundw
              case measure => simp [intOf]
              first | (refine (?_ : ∃ (_ : Nat), _)) | ((repeat apply Exists.intro); refine ⟨?_, rfl⟩)
              refine ⟨3, by go_num, by omega, .inr ⟨ug, hide ⟨⟨?_, ⟨_, _, _, _, _, Blk.off T4.out R4.out.blk HT1.out (by decide)⟩, ⟨_, HB1.out⟩, ?_, ?_, ?_⟩, HE.out⟩⟩⟩
              · exact Blk.off (HI.out.nod.ext E4.out) R4.out.blk HT1.out (by decide)
              · exact R4.out.trk.tw HT1.out (fun e => by have := (R4.out.trk.lt _ e).1; omega) (by simp)
              · exact KpF.chain HI.out.kp (KpF.chain (KpF.ofExt E4.out) (KpF.ofTw R4.out.blk HT1.out))
              · exact Below.chain HI.out.low (Below.chain (Below.ofExt E4.out (Nat.le_of_lt HRD.out.blk.lt)) (Below.ofTw HT1.out (Nat.le_of_lt R4.out.blk.lt) (Nat.le_refl _)))
          · have HE : Hid (trkR b x = .bad ug) := hide (by rw [HUG.out, ← HZ.out]; exact trkR_kid (k := 2) (by omega) HI.out.oks (kidR_bad (by omega) (by rw [HZ.out, ← HUK.out]; exact hkd)))
            have hne : (uk == [101, 100, 105, 116]) = false := by simpa using (show ¬ uk = [101, 100, 105, 116] from hkd)
            have HXP := hide (fun (W : World) (hW : Ext w2 W) => expect_bad ug (R2.out.ext hW).blk)
            go_region_held3 (fun W => W.cell? ⟨kb, 0, none⟩ = some (.string ⟨uk.toArray⟩) ∧ W.cell? ⟨kb, 1, none⟩ = some (.int .i64 (ug : Int)) ∧ W.cell? ⟨sb, 2, none⟩ = some (.string ⟨kEdit.toArray⟩)) (first | go_keep | exact ⟨KB3.out.cell 0, KB3.out.cell 1, KS3.out.cell 2⟩) (((go_at_call 33; with_reducible refine (HXP.out _ (Ext.drew _)).mono ?_); rintro e w3 ⟨rfl, p1, p2⟩; have HB1 := hide p1; have HT1 := hide p2; have KB3 := hide (Blk.off (K2.out.ext (Ext.drew _)) (R2.out.ext (Ext.drew _)).blk p2 (by decide)); have KS3 := hide (Blk.off (T2.out.ext (Ext.drew _)) (R2.out.ext (Ext.drew _)).blk p2 (by decide)); clear p1 p2))
            go_wp2_with fail
            refine bodyPost_ret (v := .tuple #[]) (by simp [results, Try.results61, go_sem]) rfl ?_
            exact FtG.bad HE.out (KpF.chain HI.out.kp (KpF.chain (KpF.ofExt (Ext.trans E2.out (Ext.drew _))) (KpF.ofTw (R2.out.ext (Ext.drew _)).blk HT1.out))) (Below.chain HI.out.low (Below.chain (Below.ofExt (Ext.trans E2.out (Ext.drew _)) (Nat.le_of_lt HRD.out.blk.lt)) (Below.ofTw HT1.out (Nat.le_of_lt (R2.out.ext (Ext.drew _)).blk.lt) (Nat.le_refl _)))) HB1.out
        · skip
          have hnj : nn = 2 := by omega
          have HE : Hid (trkR b x = .bad x.en) := hide (trkR_kid (k := 2) (by omega) HI.out.oks (by unfold kidR; rw [List.getElem?_eq_none (by omega)]))
          have HXB := hide (expect_bad x.en HRD.out.blk)
          have LO2 := hide HI.out.lo2
          subst hnj
          have T0 := hide HI.out.trk
          go_wp2_with ((go_at_call 33; with_reducible refine HXB.out.mono ?_); rintro e wq ⟨rfl, p1, p2⟩; have BK := hide p1; have HT1 := hide p2; clear p1 p2)
          obtain ⟨nm, hnm⟩ : ∃ nm, nmK b x 2 = nm := ⟨_, rfl⟩
          obtain ⟨s, hs_⟩ : ∃ s, scK b x 2 = s := ⟨_, rfl⟩
          have TB := hide (Blk.off T0.out HRD.out.blk HT1.out (by decide))
          rw [hnm, hs_] at TB
          have OW := hide (HRD.out.trk.tw HT1.out (fun e => by have := (HRD.out.trk.lt _ e).1; omega) (by simp))
          have KPQ := hide (KpF.chain HI.out.kp (KpF.ofTw HRD.out.blk HT1.out))
          have LOQ := hide (Below.chain HI.out.low (Below.ofTw HT1.out (Nat.le_of_lt HRD.out.blk.lt) (Nat.le_refl _)))
          clear hnm hs_ x5 xf5 n3 n4
          have S1 : Hid (hs.length + 1 ≤ maxLen) := hide (by have := HR0.out.len; unfold maxLen; omega)
          have S2 : Hid ((hs.length + 1) * 72 ≤ 140737488355328) := hide (by have := HR0.out.len; omega)
          go_upto_region 26 with (fail)
          refine region_z (S := S26 rb tb tv nm s eA en ec) 11 (by kernel_rfl) ?_
          refine AnyZ.takeE (i := 0) (d := 143) (oi := _) (v := ?_) rfl rfl rfl (by kernel_rfl) (by kernel_rfl) (by kernel_rfl) (by kernel_rfl) (by kernel_rfl) (by kernel_rfl) (fun _ _ _ h => h) (Or.inl ⟨by rfl, ?_⟩) (S26.of (BK.out.ext (Ext.drew _)) (TB.out.ext (Ext.drew _))) ?_
          rotate_left
          · intro W hW; obtain ⟨s1, s2, s3, s4, s5⟩ := hW; first | (go_simp; done) | (go_simp; with_reducible rfl)
          try simp only [Act.put, List.setIfInBounds_toArray, List.set_cons_zero, List.set_cons_succ]
          refine AnyZ.takeE (i := 1) (d := 144) (oi := _) (v := ?_) rfl rfl rfl (by kernel_rfl) (by kernel_rfl) (by kernel_rfl) (by kernel_rfl) (by kernel_rfl) (by kernel_rfl) (fun _ _ _ h => h) (Or.inl ⟨by rfl, ?_⟩) (S26.of (BK.out.ext (Ext.drew _)) (TB.out.ext (Ext.drew _))) ?_
          rotate_left
          · intro W hW; obtain ⟨s1, s2, s3, s4, s5⟩ := hW; first | (go_simp; done) | (go_simp; with_reducible rfl)
          try simp only [Act.put, List.setIfInBounds_toArray, List.set_cons_zero, List.set_cons_succ]
          refine AnyZ.takeE (i := 2) (d := 145) (oi := _) (v := ?_) rfl rfl rfl (by kernel_rfl) (by kernel_rfl) (by kernel_rfl) (by kernel_rfl) (by kernel_rfl) (by kernel_rfl) (fun _ _ _ h => h) (Or.inl ⟨by rfl, ?_⟩) (S26.of (BK.out.ext (Ext.drew _)) (TB.out.ext (Ext.drew _))) ?_
          rotate_left
          · intro W hW; obtain ⟨s1, s2, s3, s4, s5⟩ := hW; first | (go_simp; done) | (go_simp; with_reducible rfl)
          try simp only [Act.put, List.setIfInBounds_toArray, List.set_cons_zero, List.set_cons_succ]
          refine AnyZ.takeE (i := 3) (d := 146) (oi := _) (v := ?_) rfl rfl rfl (by kernel_rfl) (by kernel_rfl) (by kernel_rfl) (by kernel_rfl) (by kernel_rfl) (by kernel_rfl) (fun _ _ _ h => h) (Or.inl ⟨by rfl, ?_⟩) (S26.of (BK.out.ext (Ext.drew _)) (TB.out.ext (Ext.drew _))) ?_
          rotate_left
          · intro W hW; obtain ⟨s1, s2, s3, s4, s5⟩ := hW; first | (go_simp; done) | (go_simp; with_reducible rfl)
          try simp only [Act.put, List.setIfInBounds_toArray, List.set_cons_zero, List.set_cons_succ]
          refine AnyZ.takeE (i := 4) (d := 147) (oi := _) (v := ?_) rfl rfl rfl (by kernel_rfl) (by kernel_rfl) (by kernel_rfl) (by kernel_rfl) (by kernel_rfl) (by kernel_rfl) (fun _ _ _ h => h) (Or.inl ⟨by rfl, ?_⟩) (S26.of (BK.out.ext (Ext.drew _)) (TB.out.ext (Ext.drew _))) ?_
          rotate_left
          · intro W hW; obtain ⟨s1, s2, s3, s4, s5⟩ := hW; first | (go_simp; done) | (go_simp; with_reducible rfl)
          try simp only [Act.put, List.setIfInBounds_toArray, List.set_cons_zero, List.set_cons_succ]
          refine AnyZ.takeE (i := 5) (d := 148) (oi := _) (v := ?_) rfl rfl rfl (by kernel_rfl) (by kernel_rfl) (by kernel_rfl) (by kernel_rfl) (by kernel_rfl) (by kernel_rfl) (fun _ _ _ h => h) (Or.inl ⟨by rfl, ?_⟩) (S26.of (BK.out.ext (Ext.drew _)) (TB.out.ext (Ext.drew _))) ?_
          rotate_left
          · intro W hW; obtain ⟨s1, s2, s3, s4, s5⟩ := hW; first | (go_simp; done) | (go_simp; with_reducible rfl)
          try simp only [Act.put, List.setIfInBounds_toArray, List.set_cons_zero, List.set_cons_succ]
          refine AnyZ.takeE (i := 6) (d := 149) (oi := _) (v := ?_) rfl rfl rfl (by kernel_rfl) (by kernel_rfl) (by kernel_rfl) (by kernel_rfl) (by kernel_rfl) (by kernel_rfl) (fun _ _ _ h => h) (Or.inl ⟨by rfl, ?_⟩) (S26.of (BK.out.ext (Ext.drew _)) (TB.out.ext (Ext.drew _))) ?_
          rotate_left
          · intro W hW; obtain ⟨s1, s2, s3, s4, s5⟩ := hW; first | (go_simp; done) | (go_simp; with_reducible rfl)
          try simp only [Act.put, List.setIfInBounds_toArray, List.set_cons_zero, List.set_cons_succ]
          refine AnyZ.step (i := 7) rfl (by kernel_rfl) (fun K hK => ?_)
          go_simp
          refine gen_hkT hK fun w3 hw3 => ?_
          have E3 : Hid (Ext wq w3) := hide (by rw [hw3]; exact Ext.trans (Ext.drew _) (Ext.alloc _ _))
          have A3 : Hid (At w3 4 eTk (some ⟨wq.drew.heap.size, 0, none⟩) 1 1 [(⟨nm, s, none, 0, 0, eA, en, ec⟩ : TrkH)]) := hide (by rw [hw3]; exact At.newE (enc := eTk) wq.drew _ _ _ rfl)
          refine ⟨fun h => S26.of (BK.out.ext E3.out) (TB.out.ext E3.out), ?_⟩
          clear hK K hw3
          try simp only [Act.put, List.setIfInBounds_toArray, List.set_cons_zero, List.set_cons_succ]
          refine AnyZ.step (i := 8) rfl (by kernel_rfl) (fun K hK => ?_)
          have S3 : Hid (rb + 1 ≤ w3.heap.size) := hide (by have := BK.out.lt; have := E3.out.size; omega)
          refine step_append_at rfl _ _ 22 rfl (rb + 1) 53 k0_ _ 72 Try.underlying22 hk0 hx0 hx1 hx2 rfl (by omega) len_eTk one_eTk tv hs (by rfl) (OW.out.ext E3.out) (some ⟨wq.drew.heap.size, 0, none⟩) 1 1 _ (by rfl) A3.out S1.out S2.out S3.out ?_
          intro v7 w7 o7 g7 _ r7
          obtain ⟨A7, c7, hv7, _⟩ := o7.at_ len_eTk
          obtain ⟨n7, hn7⟩ : ∃ n7, (hs ++ [(⟨nm, s, none, 0, 0, eA, en, ec⟩ : TrkH)]).length = n7 := ⟨_, rfl⟩
          rw [hn7] at hv7
          subst hv7
          have O7 := hide o7
          have G7 := hide g7
          have RR7 := hide r7
          have hRB := BK.out.ext E3.out
          have hTB := TB.out.ext E3.out
          have HAP := OW.out.ext E3.out
          have B7 : Hid (Blk w7 rb 85 _) := hide ((g7.block rb hRB.lt (fun e => HAP.apartB hRB (by decide) e.symm)).trans hRB)
          have T7 : Hid (Blk w7 tb 53 _) := hide ((g7.block tb hTB.lt (fun e => by have := (HR0.out.trk.lt tb e.symm).2; have := LO2.out; omega)).trans hTB)
          have k7 : w7.cell? ⟨rb, 2, none⟩ = some tv := B7.out.cell 2
          have f7 := B7.out.frozen 2
          clear o7 g7 r7 hn7 hRB HAP hTB
          refine hK.out _ _ (fun h => S26.of B7.out T7.out) ?_
          clear hK K
          try simp only [Act.put, List.setIfInBounds_toArray, List.set_cons_zero, List.set_cons_succ]
          refine AnyZ.step (i := 9) rfl (by kernel_rfl) (fun K hK => ?_)
          go_simp
          refine hK.out _ _ (fun h => ?_) ?_
          · exact S26.of B7.out T7.out
          clear hK K
          try simp only [Act.put, List.setIfInBounds_toArray, List.set_cons_zero, List.set_cons_succ]
          refine AnyZ.step (i := 10) rfl (by kernel_rfl) (fun K hK => ?_)
          go_simp
          refine hK.out _ _ (fun h => ?_) ?_
          · exact S26.of B7.out T7.out
          clear hK K
          try simp only [Act.put, List.setIfInBounds_toArray, List.set_cons_zero, List.set_cons_succ]
          refine AnyZ.step (i := 11) rfl (by kernel_rfl) (fun K hK => ?_)
          go_simp
          refine hK.out _ _ (fun h => ?_) ?_
          · exact absurd (h.symm.trans (show _ = true by kernel_rfl)) (by simp)
          clear hK K
          try simp only [Act.put, List.setIfInBounds_toArray, List.set_cons_zero, List.set_cons_succ]
          refine AnyZ.step (i := 12) rfl (by kernel_rfl) (fun K hK => ?_)
          go_simp
          refine hK.out _ _ (fun h => ?_) ?_
          · exact absurd (h.symm.trans (show _ = true by kernel_rfl)) (by simp)
          clear hK K
          try simp only [Act.put, List.setIfInBounds_toArray, List.set_cons_zero, List.set_cons_succ]
          refine AnyZ.done (by kernel_rfl) ?_ _
          clear k7 f7
          go_wp2_with fail
          refine bodyPost_ret (v := .tuple #[]) (by simp [results, Try.results61, go_sem]) rfl ?_
          have hT8 := Tw.set_ w7 rb 2 (.slice A7 n7 c7) none
          have hB8 := B7.out.set_ 2 (.slice A7 n7 c7)
          have hKP : KpF w (w7.setCell ⟨rb, 2, none⟩ (.slice A7 n7 c7)) := KpF.chain KPQ.out (fun t cs h1 h2 _ g hb => by
            have hb2 : Blk w3 g t cs := hb.ext E3.out
            exact Blk.off ((G7.out.block g hb2.lt (fun e => (OW.out.ext E3.out).apartB hb2 (Ne.symm h2) e.symm)).trans hb2) B7.out hT8 h1)
          have hLO : Below rb w (w7.setCell ⟨rb, 2, none⟩ (.slice A7 n7 c7)) := Below.chain LOQ.out (Below.chain (Below.ofExt E3.out (Nat.le_of_lt BK.out.lt)) (Below.chain ((Below.refl rb w3).grown G7.out (by have := S3.out; omega) (fun g e => by have := (OW.out.lt g e).1; omega)) (Below.ofTw hT8 (Nat.le_of_lt B7.out.lt) (Nat.le_refl _))))
          exact FtG.bad HE.out hKP hLO hB8
      case inr.inr.inr.inl =>
        have HEX := hide (HI.out.ext (by omega)).1
        have HRD := hide (HR0.out.ext HEX.out)
        have x5 : wl.cell? ⟨rb, 5, none⟩ = some (.int .i64 (-1)) := HRD.out.blk.cell 5
        have xf5 := HRD.out.blk.frozen 5
        by_cases hlt : 3 < nn
        · obtain ⟨oA, pA, rfl, _⟩ := HPO.out.at_.addr (by omega)
          have hd := HPO.out.hd 3 hlt
          have hat := HPO.out.at_
          obtain ⟨z, hz⟩ : ∃ z, x.kids.getD 3 dN = z := ⟨_, rfl⟩
          obtain ⟨u, hu⟩ : ∃ u, ks.getD 3 default = u := ⟨_, rfl⟩
          rw [hz, hu] at hd
          have hwz := HWF.out.at_ (i := 3) (by omega)
          rw [show x.kids.getD 3 (.mk [] 0 0 0 0 []) = z from hz] at hwz
          obtain ⟨uk, ug, ud, ue, uA, un, uc⟩ := u
          have a0 : wl.cell? ⟨oA, pA + 15, none⟩ = some (.string ⟨uk.toArray⟩) := by simpa [Nat.add_assoc] using hat.cellK (k := 3) hlt default 0 _ (by rw [hu]; rfl)
          have a1 : wl.cell? ⟨oA, pA + 16, none⟩ = some (.int .i64 (ug : Int)) := by simpa [Nat.add_assoc] using hat.cellK (k := 3) hlt default 1 _ (by rw [hu]; rfl)
          have a2 : wl.cell? ⟨oA, pA + 17, none⟩ = some (.int .i64 (ud : Int)) := by simpa [Nat.add_assoc] using hat.cellK (k := 3) hlt default 2 _ (by rw [hu]; rfl)
          have a3 : wl.cell? ⟨oA, pA + 18, none⟩ = some (.int .i64 (ue : Int)) := by simpa [Nat.add_assoc] using hat.cellK (k := 3) hlt default 3 _ (by rw [hu]; rfl)
          have a4 : wl.cell? ⟨oA, pA + 19, none⟩ = some (.slice uA un uc) := by simpa [Nat.add_assoc] using hat.cellK (k := 3) hlt default 4 _ (by rw [hu]; rfl)
          have HUK : Hid (uk = z.kind) := hide hd.kind
          have HUG : Hid (ug = z.beg) := hide hd.beg
          have hud : ud = z.dat := hd.dat
          have hue : ue = z.en := hd.en
          have HZ := hide hz
          have HUD := hide hud
          have HUE := hide hue
          have hde : ud ≤ ue := by omega
          have hel : ue ≤ bn := by omega
          have i1 : ((3 : Nat) : Int) < (nn : Int) := by omega
          clear hd hat hz hu hwz hud hue
          go_upto_region 7 with (fail)
          refine gen_wpC fun w2 h2 => ?_
          obtain ⟨kb, hkb2⟩ : ∃ kb, kb = wl.heap.size := ⟨_, rfl⟩
          rw [← hkb2]
          have E2 : Hid (Ext wl w2) := hide (by rw [h2]; exact Ext.alloc _ _)
          have K2 : Hid (Blk w2 kb 87 #[.string ⟨uk.toArray⟩, .int .i64 (ug : Int), .int .i64 (ud : Int), .int .i64 (ue : Int), .slice uA un uc]) := hide (by rw [h2, hkb2]; exact Blk.new _ _ _)
          have R2 := hide (HRD.out.ext E2.out)
          have T2 := hide (HI.out.str.ext E2.out)
          clear h2 hkb2 a0 a1 a2 a3 a4 x5 xf5
          have k0 : w2.cell? ⟨kb, 0, none⟩ = some (.string ⟨uk.toArray⟩) := K2.out.cell 0
          have k1 : w2.cell? ⟨kb, 1, none⟩ = some (.int .i64 (ug : Int)) := K2.out.cell 1
          have t0 : w2.cell? ⟨sb, 3, none⟩ = some (.string ⟨kTabl.toArray⟩) := T2.out.cell 3
          have hmn : min (3 : Int) 3 = 3 := by decide
          by_cases hkd : uk = kTabl
          · subst hkd
            have HXP := hide (fun (W : World) (hW : Ext w2 W) => expect_good (ug : Int) (R2.out.ext hW).blk)
            go_region_held3 (fun W => W.cell? ⟨kb, 0, none⟩ = some (.string ⟨kTabl.toArray⟩) ∧ W.cell? ⟨kb, 1, none⟩ = some (.int .i64 (ug : Int)) ∧ W.cell? ⟨sb, 3, none⟩ = some (.string ⟨kTabl.toArray⟩)) (first | go_keep) (((go_at_call 33; with_reducible refine (HXP.out _ (Ext.drew _)).mono ?_); rintro e w' ⟨rfl, rfl⟩))
            obtain ⟨w3, hw3⟩ : ∃ w3, w3 = w2.drew := ⟨_, rfl⟩
            rw [← hw3]
            have E3 : Hid (Ext wl w3) := hide (by rw [hw3]; exact Ext.trans E2.out (Ext.drew _))
            have K3 := hide (K2.out.ext (show Ext w2 w3 by rw [hw3]; exact Ext.drew _))
            clear hw3 k0 k1 t0
            have R3 := hide (HRD.out.ext E3.out)
            have HB3 := hide (HB0.out.ext (Ext.trans HEX.out E3.out))
            obtain ⟨cA, hr, ha⟩ := HB3.out.range_ Try.underlying26 (fun _ => by kernel_rfl) (k := ud) (m := ue) hde hel (ud : Int) (ue : Int) rfl rfl
            obtain ⟨cn, hcn⟩ : ∃ cn, ue - ud = cn := ⟨_, rfl⟩
            obtain ⟨cc, hcc⟩ : ∃ cc, bc - ud = cc := ⟨_, rfl⟩
            rw [hcn, hcc] at hr ha
            obtain ⟨C, hC⟩ : ∃ C, ctB b (x.kids.getD 3 dN) = C := ⟨_, rfl⟩
            have hCC : (b.drop ud).take cn = C := by rw [← hC, HZ.out, ← hcn, HUD.out, HUE.out]; rfl
            rw [hCC] at ha
            have hat3 := ha w3 HB3.out
            have HAX := hide ha
            have HC := hide hC
            have hlc := hat3.len
            have hlm := hat3.bound
            have HDA := hide (fun (W : World) (hW : Ext w3 W) => hat3.ext hW)
            have HKR : Hid (kidR x.kids 3 (kK 3) x.en = .ok (x.kids.getD 3 dN)) := hide (kidR_good (by omega) (by rw [HZ.out, ← HUK.out]; rfl))
            have c0 : w3.cell? ⟨rb, 0, none⟩ = some (.slice bA bn bc) := R3.out.blk.cell 0
            have k2 : w3.cell? ⟨kb, 2, none⟩ = some (.int .i64 (ud : Int)) := K3.out.cell 2
            have k3 : w3.cell? ⟨kb, 3, none⟩ = some (.int .i64 (ue : Int)) := K3.out.cell 3
            have hC6 : C.length ≤ 1000000 := by rw [← hC]; exact Nat.le_trans (ctB_le b _) HBL.out
            have HC6 := hide hC6
            clear ha hat3 hC hCC hC6 hcn hcc
            go_upto_region 8 with (fail)
            go_region
            clear hr c0 k2 k3
            obtain ⟨w4, hw4⟩ : ∃ w4, w4 = w3.drew := ⟨_, rfl⟩
            rw [← hw4]
            have E4 : Hid (Ext wl w4) := hide (by rw [hw4]; exact Ext.trans E3.out (Ext.drew _))
            have K4 := hide (K3.out.ext (show Ext w3 w4 by rw [hw4]; exact Ext.drew _))
            have HD4 := hide (HDA.out w4 (by rw [hw4]; exact Ext.drew _))
            have R4 := hide (HRD.out.ext E4.out)
            have T4 := hide (HI.out.trk.ext E4.out)
            have O4 := hide (HI.out.ed.ext E4.out)
            clear hw4 HDA
            have HRT := hide (refReadTab_any HD4.out (by have := HC6.out; omega))
            have HRR := rt_right HC6.out
            by_cases hf : rtF C = 0
            · have HRF : Hid (rtF (ctB b (x.kids.getD 3 dN)) = 0) := hide (by rw [HC.out]; exact hf)
              obtain ⟨hbn2, hV⟩ := HRR.1 hf
              clear hf HRR
              have HV := hide hV
              clear hV
              go_wp2_with fail
              with_reducible refine HRT.out.mono ?_
              rintro e w5 ⟨v, rfl, tb1, e1⟩
              generalize badI (rtE C) = bi at *
              obtain ⟨yt, rfl, tok⟩ := tb1.cells
              have TOK1 := hide tok
              have E5 := hide e1
              clear e1 tok tb1
              go_upto_region 23 with (fail)
              refine gen_wpC fun w6 h6 => ?_
              obtain ⟨gb, hgb⟩ : ∃ gb, gb = w5.heap.size := ⟨_, rfl⟩
              rw [← hgb]
              have E6 : Hid (Ext wl w6) := hide (by rw [h6]; exact Ext.trans E4.out (Ext.trans E5.out (Ext.alloc _ _)))
              have T6 : Hid (Blk w6 gb 73 #[.int .i64 yt.start, .slice yt.sA yt.sn yt.sc, .slice yt.hA yt.hn yt.hc, .slice yt.zA yt.zn yt.zc, .slice yt.kA yt.kn yt.kc, .slice yt.cA yt.cn yt.cc, .slice yt.pA yt.pn yt.pc]) := hide (by rw [h6, hgb]; exact Blk.new _ _ _)
              have R6 := hide (HRD.out.ext E6.out)
              have TK6 := hide (HI.out.trk.ext E6.out)
              have NGB : Hid (bv.ownBlock ≠ some gb) := hide (fun e => by have := (HRD.out.tab.lt gb e).2; have := E4.out.size; have := E5.out.size; omega)
              have TOK : Hid (TbOk w6 (fun k => wl.heap.size ≤ k ∧ k < w6.heap.size) yt (rtT C)) := hide (by
                have e3 : Ext w5 w6 := by rw [h6]; exact Ext.alloc _ _
                exact TOK1.out.good (fun k hk => e3.block k hk.2) (fun k hk => ⟨by have := hk.1; have := E4.out.size; omega, Nat.lt_of_lt_of_le hk.2 e3.size⟩))
              have k1 : w6.cell? ⟨kb, 1, none⟩ = some (.int .i64 (ug : Int)) := (K4.out.ext (by rw [h6]; exact Ext.trans E5.out (Ext.alloc _ _))).cell 1
              clear h6 hgb
              have TOKV : Hid (TbOk w6 (fun k => wl.heap.size ≤ k ∧ k < w6.heap.size) yt (rtV (ctB b (x.kids.getD 3 dN)))) := hide (by rw [HC.out, HV.out]; exact TOK.out)
              have S1 : Hid (ts.length + 1 ≤ maxLen) := hide (by have := HRD.out.lenB; unfold maxLen; omega)
              have S2 : Hid ((ts.length + 1) * 152 ≤ 140737488355328) := hide (by have := HRD.out.lenB; omega)
              have HXG := hide (expect_good (ug : Int) R6.out.blk)
              go_upto_region 24 with ((go_at_call 33; with_reducible refine HXG.out.mono ?_); rintro e w' ⟨rfl, rfl⟩)
              refine region_z (S := S24 rb gb bv yt) 9 (by kernel_rfl) ?_
              refine AnyZ.takeE (i := 0) (d := 125) (oi := _) (v := ?_) rfl rfl rfl (by kernel_rfl) (by kernel_rfl) (by kernel_rfl) (by kernel_rfl) (by kernel_rfl) (by kernel_rfl) (fun _ _ _ h => h) (Or.inl ⟨by rfl, ?_⟩) (S24.of (R6.out.blk.ext (Ext.drew _)) (T6.out.ext (Ext.drew _))) ?_
              rotate_left
              · intro W hW; obtain ⟨s1, s2, s3, s4, s5, s6, s7, s8⟩ := hW; first | (go_simp; done) | (go_simp; with_reducible rfl)
              try simp only [Act.put, List.setIfInBounds_toArray, List.set_cons_zero, List.set_cons_succ]
              refine AnyZ.takeE (i := 1) (d := 126) (oi := _) (v := ?_) rfl rfl rfl (by kernel_rfl) (by kernel_rfl) (by kernel_rfl) (by kernel_rfl) (by kernel_rfl) (by kernel_rfl) (fun _ _ _ h => h) (Or.inl ⟨by rfl, ?_⟩) (S24.of (R6.out.blk.ext (Ext.drew _)) (T6.out.ext (Ext.drew _))) ?_
              rotate_left
              · intro W hW; obtain ⟨s1, s2, s3, s4, s5, s6, s7, s8⟩ := hW; first | (go_simp; done) | (go_simp; with_reducible rfl)
              try simp only [Act.put, List.setIfInBounds_toArray, List.set_cons_zero, List.set_cons_succ]
              refine AnyZ.takeE (i := 2) (d := 127) (oi := _) (v := ?_) rfl rfl rfl (by kernel_rfl) (by kernel_rfl) (by kernel_rfl) (by kernel_rfl) (by kernel_rfl) (by kernel_rfl) (fun _ _ _ h => h) (Or.inl ⟨by rfl, ?_⟩) (S24.of (R6.out.blk.ext (Ext.drew _)) (T6.out.ext (Ext.drew _))) ?_
              rotate_left
              · intro W hW; obtain ⟨s1, s2, s3, s4, s5, s6, s7, s8⟩ := hW; first | (go_simp; done) | (go_simp; with_reducible rfl)
              try simp only [Act.put, List.setIfInBounds_toArray, List.set_cons_zero, List.set_cons_succ]
              refine AnyZ.takeE (i := 3) (d := 128) (oi := _) (v := ?_) rfl rfl rfl (by kernel_rfl) (by kernel_rfl) (by kernel_rfl) (by kernel_rfl) (by kernel_rfl) (by kernel_rfl) (fun _ _ _ h => h) (Or.inl ⟨by rfl, ?_⟩) (S24.of (R6.out.blk.ext (Ext.drew _)) (T6.out.ext (Ext.drew _))) ?_
              rotate_left
              · intro W hW; obtain ⟨s1, s2, s3, s4, s5, s6, s7, s8⟩ := hW; first | (go_simp; done) | (go_simp; with_reducible rfl)
              try simp only [Act.put, List.setIfInBounds_toArray, List.set_cons_zero, List.set_cons_succ]
              refine AnyZ.takeE (i := 4) (d := 129) (oi := _) (v := ?_) rfl rfl rfl (by kernel_rfl) (by kernel_rfl) (by kernel_rfl) (by kernel_rfl) (by kernel_rfl) (by kernel_rfl) (fun _ _ _ h => h) (Or.inl ⟨by rfl, ?_⟩) (S24.of (R6.out.blk.ext (Ext.drew _)) (T6.out.ext (Ext.drew _))) ?_
              rotate_left
              · intro W hW; obtain ⟨s1, s2, s3, s4, s5, s6, s7, s8⟩ := hW; first | (go_simp; done) | (go_simp; with_reducible rfl)
              try simp only [Act.put, List.setIfInBounds_toArray, List.set_cons_zero, List.set_cons_succ]
              refine AnyZ.takeE (i := 5) (d := 130) (oi := _) (v := ?_) rfl rfl rfl (by kernel_rfl) (by kernel_rfl) (by kernel_rfl) (by kernel_rfl) (by kernel_rfl) (by kernel_rfl) (fun _ _ _ h => h) (Or.inl ⟨by rfl, ?_⟩) (S24.of (R6.out.blk.ext (Ext.drew _)) (T6.out.ext (Ext.drew _))) ?_
              rotate_left
              · intro W hW; obtain ⟨s1, s2, s3, s4, s5, s6, s7, s8⟩ := hW; first | (go_simp; done) | (go_simp; with_reducible rfl)
              try simp only [Act.put, List.setIfInBounds_toArray, List.set_cons_zero, List.set_cons_succ]
              refine AnyZ.step (i := 6) rfl (by kernel_rfl) (fun K hK => ?_)
              go_simp
              refine gen_hkT hK fun w3 hw3 => ?_
              have E3 : Hid (Ext w6 w3) := hide (by rw [hw3]; exact Ext.trans (Ext.drew _) (Ext.alloc _ _))
              have A3 : Hid (At w3 7 eTb (some ⟨w6.drew.heap.size, 0, none⟩) 1 1 [yt]) := hide (by rw [hw3]; exact At.newE (enc := eTb) w6.drew yt _ _ rfl)
              refine ⟨fun h => S24.of (R6.out.blk.ext E3.out) (T6.out.ext E3.out), ?_⟩
              clear hK K hw3
              try simp only [Act.put, List.setIfInBounds_toArray, List.set_cons_zero, List.set_cons_succ]
              refine AnyZ.step (i := 7) rfl (by kernel_rfl) (fun K hK => ?_)
              have S3 : Hid (rb + 1 ≤ w3.heap.size) := hide (by have := R6.out.blk.lt; have := E3.out.size; omega)
              refine step_append_at rfl _ _ 64 rfl (rb + 1) 73 j0_ _ 152 Try.underlying64 hj0 hy0 hy1 hy2 rfl (by omega) len_eTb one_eTb bv ts (by rfl) (R6.out.tab.ext E3.out) (some ⟨w6.drew.heap.size, 0, none⟩) 1 1 [yt] (by rfl) A3.out S1.out S2.out S3.out ?_
              intro v7 w7 o7 g7 _ r7
              obtain ⟨A7, c7, hv7, _⟩ := o7.at_ len_eTb
              obtain ⟨n7, hn7⟩ : ∃ n7, (ts ++ [yt]).length = n7 := ⟨_, rfl⟩
              rw [hn7] at hv7
              subst hv7
              have O7 := hide o7
              have G7 := hide g7
              have RR7 := hide r7
              have hRB := R6.out.blk.ext E3.out
              have HAP := R6.out.tab.ext E3.out
              have B7 : Hid (Blk w7 rb 85 (fiC (.slice bA bn bc) sc tv bv dv (-1))) := hide ((g7.block rb hRB.lt (fun e => HAP.apartB hRB (by decide) e.symm)).trans hRB)
              have T7 : Hid (Blk w7 gb 73 _) := hide ((g7.block gb (T6.out.ext E3.out).lt (fun e => NGB.out e.symm)).trans (T6.out.ext E3.out))
              have k7 : w7.cell? ⟨rb, 3, none⟩ = some bv := B7.out.cell 3
              have f7 := B7.out.frozen 3
              clear o7 g7 r7 hn7 hRB HAP
              refine hK.out _ _ (fun h => S24.of B7.out T7.out) ?_
              clear hK K
              try simp only [Act.put, List.setIfInBounds_toArray, List.set_cons_zero, List.set_cons_succ]
              refine AnyZ.step (i := 8) rfl (by kernel_rfl) (fun K hK => ?_)
              go_simp
              refine hK.out _ _ (fun h => ?_) ?_
              · exact S24.of B7.out T7.out
              clear hK K
              try simp only [Act.put, List.setIfInBounds_toArray, List.set_cons_zero, List.set_cons_succ]
              refine AnyZ.step (i := 9) rfl (by kernel_rfl) (fun K hK => ?_)
              go_simp
              refine hK.out _ _ (fun h => ?_) ?_
              · exact absurd (h.symm.trans (show _ = true by kernel_rfl)) (by simp)
              clear hK K
              try simp only [Act.put, List.setIfInBounds_toArray, List.set_cons_zero, List.set_cons_succ]
              refine AnyZ.step (i := 10) rfl (by kernel_rfl) (fun K hK => ?_)
              go_simp
              refine hK.out _ _ (fun h => ?_) ?_
              · exact absurd (h.symm.trans (show _ = true by kernel_rfl)) (by simp)
              clear hK K
              try simp only [Act.put, List.setIfInBounds_toArray, List.set_cons_zero, List.set_cons_succ]
              refine AnyZ.done (by kernel_rfl) ?_ _
              clear k7 f7
              go_wp2_with fail
              go_roundw
              case measure => simp [intOf]
              first | (refine (?_ : ∃ (_ : Nat), _)) | ((repeat apply Exists.intro); refine ⟨?_, rfl⟩)
              refine ⟨4, by go_num, by omega, .inl ⟨.slice A7 n7 c7, eA, en, ec, by omega, hide ?_⟩⟩
              have hC := HC.out
              subst hC
              have hT8 := Tw.set_ w7 rb 3 (.slice A7 n7 c7) none
              have hB8 := B7.out.set_ 3 (.slice A7 n7 c7)
              have hkp : ∀ t cs, t ≠ 73 → t ≠ 85 → ∀ g, Blk wl g t cs → Blk (w7.setCell ⟨rb, 3, none⟩ (.slice A7 n7 c7)) g t cs := fun t cs h1 h2 g hb => by
                have hb2 : Blk w3 g t cs := hb.ext (Ext.trans E6.out E3.out)
                have hb3 : Blk w7 g t cs := (G7.out.block g hb2.lt (fun e => (R6.out.tab.ext E3.out).apartB hb2 (Ne.symm h1) e.symm)).trans hb2
                exact Blk.off hb3 B7.out hT8 h2
              have hED : Own (w7.setCell ⟨rb, 3, none⟩ (.slice A7 n7 c7)) w.heap.size 95 2 e2 (.slice eA en ec) (edKK b x 3) := by
                have h1 := HI.out.ed.ext (Ext.trans E6.out E3.out)
                have h2 := R6.out.tab.ext E3.out
                have h3 := h1.kept G7.out (by
                  cases hv : (Value.slice eA en ec).ownBlock with
                  | none => exact .inl rfl
                  | some g => exact .inr (fun e => h1.apart h2 (by decide) g hv e.symm))
                exact h3.tw hT8 (h3.apartB B7.out (by decide)) (by simp)
              refine ⟨hkp _ _ (by decide) (by decide) _ HI.out.nod, hkp _ _ (by decide) (by decide) _ HI.out.trk, hkp _ _ (by decide) (by decide) _ HI.out.str, hED, KpF.chain HI.out.kp (fun t cs h1 h2 h3 g hb => hkp t cs h3 h1 g hb), ?_, fun h => by omega, fun _ => ⟨yt, ?_⟩, fun j hj => ?_, HI.out.lo2⟩
              · refine Below.chain HI.out.low (Below.chain (Below.ofExt (Ext.trans E6.out E3.out) (Nat.le_of_lt HRD.out.blk.lt)) (Below.chain ((Below.refl rb w3).grown G7.out (by have := S3.out; omega) (fun g e => by have := (R6.out.tab.lt g e).1; omega)) (Below.ofTw hT8 (Nat.le_of_lt B7.out.lt) (Nat.le_refl _))))
              · exact R6.out.table (G' := fun k => wl.heap.size ≤ k ∧ k < w6.heap.size) E3.out TOKV.out (fun k hk => ⟨by have := hk.1; have := HRD.out.blk.lt; omega, hk.2, fun e => by have := (HRD.out.trk.lt k e).2; have := hk.1; omega, fun e => by have := (HRD.out.tab.lt k e).2; have := hk.1; omega, fun e => by have := HRD.out.dlt k e; have := hk.1; omega⟩) O7.out G7.out RR7.out hT8 hB8
              · rcases Nat.lt_succ_iff_lt_or_eq.1 hj with h1 | h1
                · exact HI.out.oks j h1
                · rw [h1]; exact ⟨HKR.out, HRF.out⟩
            · have HE : Hid (trkR b x = .bad ug) := hide (by rw [HUG.out, ← HZ.out]; exact trkR_chk (k := 3) (by omega) HI.out.oks HKR.out (by show ¬ rtF (ctB b (x.kids.getD 3 dN)) = 0; rw [HC.out]; exact hf))
              have hbn2 := HRR.2 hf
              clear hf HRR
              go_wp2_with fail
              with_reducible refine HRT.out.mono ?_
              rintro e w5 ⟨v, rfl, tb1, e1⟩
              generalize badI (rtE C) = bi at *
              obtain ⟨yt, rfl, tok⟩ := tb1.cells
              have TOK1 := hide tok
              have E5 := hide e1
              clear e1 tok tb1
              go_upto_region 23 with (fail)
              refine gen_wpC fun w6 h6 => ?_
              obtain ⟨gb, hgb⟩ : ∃ gb, gb = w5.heap.size := ⟨_, rfl⟩
              rw [← hgb]
              have E6 : Hid (Ext wl w6) := hide (by rw [h6]; exact Ext.trans E4.out (Ext.trans E5.out (Ext.alloc _ _)))
              have T6 : Hid (Blk w6 gb 73 #[.int .i64 yt.start, .slice yt.sA yt.sn yt.sc, .slice yt.hA yt.hn yt.hc, .slice yt.zA yt.zn yt.zc, .slice yt.kA yt.kn yt.kc, .slice yt.cA yt.cn yt.cc, .slice yt.pA yt.pn yt.pc]) := hide (by rw [h6, hgb]; exact Blk.new _ _ _)
              have R6 := hide (HRD.out.ext E6.out)
              have TK6 := hide (HI.out.trk.ext E6.out)
              have NGB : Hid (bv.ownBlock ≠ some gb) := hide (fun e => by have := (HRD.out.tab.lt gb e).2; have := E4.out.size; have := E5.out.size; omega)
              have TOK : Hid (TbOk w6 (fun k => wl.heap.size ≤ k ∧ k < w6.heap.size) yt (rtT C)) := hide (by
                have e3 : Ext w5 w6 := by rw [h6]; exact Ext.alloc _ _
                exact TOK1.out.good (fun k hk => e3.block k hk.2) (fun k hk => ⟨by have := hk.1; have := E4.out.size; omega, Nat.lt_of_lt_of_le hk.2 e3.size⟩))
              have k1 : w6.cell? ⟨kb, 1, none⟩ = some (.int .i64 (ug : Int)) := (K4.out.ext (by rw [h6]; exact Ext.trans E5.out (Ext.alloc _ _))).cell 1
              clear h6 hgb
              have HXB := hide (expect_bad ug R6.out.blk)
              go_wp2_with fail
              rw [show decide (bi < 0) = false from decide_eq_false (by omega)]
              refine HXB.out.mono ?_
              rintro e w9 ⟨rfl, p1, p2⟩
              have HB1 := hide p1
              have HT1 := hide p2
              clear p1 p2
              go_wp2_with fail
              go_roundw
              case measure => simp [intOf]
              first | (refine (?_ : ∃ (_ : Nat), _)) | ((repeat apply Exists.intro); refine ⟨?_, rfl⟩)
              refine ⟨4, by go_num, by omega, .inr ⟨ug, hide ⟨⟨?_, ⟨_, _, _, _, _, Blk.off TK6.out R6.out.blk HT1.out (by decide)⟩, ⟨_, HB1.out⟩, ?_, ?_, ?_⟩, HE.out⟩⟩⟩
              · exact Blk.off (HI.out.nod.ext E6.out) R6.out.blk HT1.out (by decide)
              · exact R6.out.trk.tw HT1.out (fun e => by have := (R6.out.trk.lt _ e).1; omega) (by simp)
              · exact KpF.chain HI.out.kp (KpF.chain (KpF.ofExt E6.out) (KpF.ofTw R6.out.blk HT1.out))
              · exact Below.chain HI.out.low (Below.chain (Below.ofExt E6.out (Nat.le_of_lt HRD.out.blk.lt)) (Below.ofTw HT1.out (Nat.le_of_lt R6.out.blk.lt) (Nat.le_refl _)))
          · have HE : Hid (trkR b x = .bad ug) := hide (by rw [HUG.out, ← HZ.out]; exact trkR_kid (k := 3) (by omega) HI.out.oks (kidR_bad (by omega) (by rw [HZ.out, ← HUK.out]; exact hkd)))
            have hne : (uk == [116, 97, 98, 108]) = false := by simpa using (show ¬ uk = [116, 97, 98, 108] from hkd)
            have HXP := hide (fun (W : World) (hW : Ext w2 W) => expect_bad ug (R2.out.ext hW).blk)
            go_region_held3 (fun W => W.cell? ⟨kb, 0, none⟩ = some (.string ⟨uk.toArray⟩) ∧ W.cell? ⟨kb, 1, none⟩ = some (.int .i64 (ug : Int)) ∧ W.cell? ⟨sb, 3, none⟩ = some (.string ⟨kTabl.toArray⟩)) (first | go_keep | exact ⟨KB3.out.cell 0, KB3.out.cell 1, KS3.out.cell 3⟩) (((go_at_call 33; with_reducible refine (HXP.out _ (Ext.drew _)).mono ?_); rintro e w3 ⟨rfl, p1, p2⟩; have HB1 := hide p1; have HT1 := hide p2; have KB3 := hide (Blk.off (K2.out.ext (Ext.drew _)) (R2.out.ext (Ext.drew _)).blk p2 (by decide)); have KS3 := hide (Blk.off (T2.out.ext (Ext.drew _)) (R2.out.ext (Ext.drew _)).blk p2 (by decide)); clear p1 p2))
            go_wp2_with fail
            refine bodyPost_ret (v := .tuple #[]) (by simp [results, Try.results61, go_sem]) rfl ?_
            exact FtG.bad HE.out (KpF.chain HI.out.kp (KpF.chain (KpF.ofExt (Ext.trans E2.out (Ext.drew _))) (KpF.ofTw (R2.out.ext (Ext.drew _)).blk HT1.out))) (Below.chain HI.out.low (Below.chain (Below.ofExt (Ext.trans E2.out (Ext.drew _)) (Nat.le_of_lt HRD.out.blk.lt)) (Below.ofTw HT1.out (Nat.le_of_lt (R2.out.ext (Ext.drew _)).blk.lt) (Nat.le_refl _)))) HB1.out
        · skip
          have hnj : nn = 3 := by omega
          have HE : Hid (trkR b x = .bad x.en) := hide (trkR_kid (k := 3) (by omega) HI.out.oks (by unfold kidR; rw [List.getElem?_eq_none (by omega)]))
          have HXB := hide (expect_bad x.en HRD.out.blk)
          have LO2 := hide HI.out.lo2
          subst hnj
          have T0 := hide HI.out.trk
          go_wp2_with ((go_at_call 33; with_reducible refine HXB.out.mono ?_); rintro e wq ⟨rfl, p1, p2⟩; have BK := hide p1; have HT1 := hide p2; clear p1 p2)
          obtain ⟨nm, hnm⟩ : ∃ nm, nmK b x 3 = nm := ⟨_, rfl⟩
          obtain ⟨s, hs_⟩ : ∃ s, scK b x 3 = s := ⟨_, rfl⟩
          have TB := hide (Blk.off T0.out HRD.out.blk HT1.out (by decide))
          rw [hnm, hs_] at TB
          have OW := hide (HRD.out.trk.tw HT1.out (fun e => by have := (HRD.out.trk.lt _ e).1; omega) (by simp))
          have KPQ := hide (KpF.chain HI.out.kp (KpF.ofTw HRD.out.blk HT1.out))
          have LOQ := hide (Below.chain HI.out.low (Below.ofTw HT1.out (Nat.le_of_lt HRD.out.blk.lt) (Nat.le_refl _)))
          clear hnm hs_ x5 xf5 n3 n4
          have S1 : Hid (hs.length + 1 ≤ maxLen) := hide (by have := HR0.out.len; unfold maxLen; omega)
          have S2 : Hid ((hs.length + 1) * 72 ≤ 140737488355328) := hide (by have := HR0.out.len; omega)
          go_upto_region 26 with (fail)
          refine region_z (S := S26 rb tb tv nm s eA en ec) 11 (by kernel_rfl) ?_
          refine AnyZ.takeE (i := 0) (d := 143) (oi := _) (v := ?_) rfl rfl rfl (by kernel_rfl) (by kernel_rfl) (by kernel_rfl) (by kernel_rfl) (by kernel_rfl) (by kernel_rfl) (fun _ _ _ h => h) (Or.inl ⟨by rfl, ?_⟩) (S26.of (BK.out.ext (Ext.drew _)) (TB.out.ext (Ext.drew _))) ?_
          rotate_left
          · intro W hW; obtain ⟨s1, s2, s3, s4, s5⟩ := hW; first | (go_simp; done) | (go_simp; with_reducible rfl)
          try simp only [Act.put, List.setIfInBounds_toArray, List.set_cons_zero, List.set_cons_succ]
          refine AnyZ.takeE (i := 1) (d := 144) (oi := _) (v := ?_) rfl rfl rfl (by kernel_rfl) (by kernel_rfl) (by kernel_rfl) (by kernel_rfl) (by kernel_rfl) (by kernel_rfl) (fun _ _ _ h => h) (Or.inl ⟨by rfl, ?_⟩) (S26.of (BK.out.ext (Ext.drew _)) (TB.out.ext (Ext.drew _))) ?_
          rotate_left
          · intro W hW; obtain ⟨s1, s2, s3, s4, s5⟩ := hW; first | (go_simp; done) | (go_simp; with_reducible rfl)
          try simp only [Act.put, List.setIfInBounds_toArray, List.set_cons_zero, List.set_cons_succ]
          refine AnyZ.takeE (i := 2) (d := 145) (oi := _) (v := ?_) rfl rfl rfl (by kernel_rfl) (by kernel_rfl) (by kernel_rfl) (by kernel_rfl) (by kernel_rfl) (by kernel_rfl) (fun _ _ _ h => h) (Or.inl ⟨by rfl, ?_⟩) (S26.of (BK.out.ext (Ext.drew _)) (TB.out.ext (Ext.drew _))) ?_
          rotate_left
          · intro W hW; obtain ⟨s1, s2, s3, s4, s5⟩ := hW; first | (go_simp; done) | (go_simp; with_reducible rfl)
          try simp only [Act.put, List.setIfInBounds_toArray, List.set_cons_zero, List.set_cons_succ]
          refine AnyZ.takeE (i := 3) (d := 146) (oi := _) (v := ?_) rfl rfl rfl (by kernel_rfl) (by kernel_rfl) (by kernel_rfl) (by kernel_rfl) (by kernel_rfl) (by kernel_rfl) (fun _ _ _ h => h) (Or.inl ⟨by rfl, ?_⟩) (S26.of (BK.out.ext (Ext.drew _)) (TB.out.ext (Ext.drew _))) ?_
          rotate_left
          · intro W hW; obtain ⟨s1, s2, s3, s4, s5⟩ := hW; first | (go_simp; done) | (go_simp; with_reducible rfl)
          try simp only [Act.put, List.setIfInBounds_toArray, List.set_cons_zero, List.set_cons_succ]
          refine AnyZ.takeE (i := 4) (d := 147) (oi := _) (v := ?_) rfl rfl rfl (by kernel_rfl) (by kernel_rfl) (by kernel_rfl) (by kernel_rfl) (by kernel_rfl) (by kernel_rfl) (fun _ _ _ h => h) (Or.inl ⟨by rfl, ?_⟩) (S26.of (BK.out.ext (Ext.drew _)) (TB.out.ext (Ext.drew _))) ?_
          rotate_left
          · intro W hW; obtain ⟨s1, s2, s3, s4, s5⟩ := hW; first | (go_simp; done) | (go_simp; with_reducible rfl)
          try simp only [Act.put, List.setIfInBounds_toArray, List.set_cons_zero, List.set_cons_succ]
          refine AnyZ.takeE (i := 5) (d := 148) (oi := _) (v := ?_) rfl rfl rfl (by kernel_rfl) (by kernel_rfl) (by kernel_rfl) (by kernel_rfl) (by kernel_rfl) (by kernel_rfl) (fun _ _ _ h => h) (Or.inl ⟨by rfl, ?_⟩) (S26.of (BK.out.ext (Ext.drew _)) (TB.out.ext (Ext.drew _))) ?_
          rotate_left
          · intro W hW; obtain ⟨s1, s2, s3, s4, s5⟩ := hW; first | (go_simp; done) | (go_simp; with_reducible rfl)
          try simp only [Act.put, List.setIfInBounds_toArray, List.set_cons_zero, List.set_cons_succ]
          refine AnyZ.takeE (i := 6) (d := 149) (oi := _) (v := ?_) rfl rfl rfl (by kernel_rfl) (by kernel_rfl) (by kernel_rfl) (by kernel_rfl) (by kernel_rfl) (by kernel_rfl) (fun _ _ _ h => h) (Or.inl ⟨by rfl, ?_⟩) (S26.of (BK.out.ext (Ext.drew _)) (TB.out.ext (Ext.drew _))) ?_
          rotate_left
          · intro W hW; obtain ⟨s1, s2, s3, s4, s5⟩ := hW; first | (go_simp; done) | (go_simp; with_reducible rfl)
          try simp only [Act.put, List.setIfInBounds_toArray, List.set_cons_zero, List.set_cons_succ]
          refine AnyZ.step (i := 7) rfl (by kernel_rfl) (fun K hK => ?_)
          go_simp
          refine gen_hkT hK fun w3 hw3 => ?_
          have E3 : Hid (Ext wq w3) := hide (by rw [hw3]; exact Ext.trans (Ext.drew _) (Ext.alloc _ _))
          have A3 : Hid (At w3 4 eTk (some ⟨wq.drew.heap.size, 0, none⟩) 1 1 [(⟨nm, s, none, 0, 0, eA, en, ec⟩ : TrkH)]) := hide (by rw [hw3]; exact At.newE (enc := eTk) wq.drew _ _ _ rfl)
          refine ⟨fun h => S26.of (BK.out.ext E3.out) (TB.out.ext E3.out), ?_⟩
          clear hK K hw3
          try simp only [Act.put, List.setIfInBounds_toArray, List.set_cons_zero, List.set_cons_succ]
          refine AnyZ.step (i := 8) rfl (by kernel_rfl) (fun K hK => ?_)
          have S3 : Hid (rb + 1 ≤ w3.heap.size) := hide (by have := BK.out.lt; have := E3.out.size; omega)
          refine step_append_at rfl _ _ 22 rfl (rb + 1) 53 k0_ _ 72 Try.underlying22 hk0 hx0 hx1 hx2 rfl (by omega) len_eTk one_eTk tv hs (by rfl) (OW.out.ext E3.out) (some ⟨wq.drew.heap.size, 0, none⟩) 1 1 _ (by rfl) A3.out S1.out S2.out S3.out ?_
          intro v7 w7 o7 g7 _ r7
          obtain ⟨A7, c7, hv7, _⟩ := o7.at_ len_eTk
          obtain ⟨n7, hn7⟩ : ∃ n7, (hs ++ [(⟨nm, s, none, 0, 0, eA, en, ec⟩ : TrkH)]).length = n7 := ⟨_, rfl⟩
          rw [hn7] at hv7
          subst hv7
          have O7 := hide o7
          have G7 := hide g7
          have RR7 := hide r7
          have hRB := BK.out.ext E3.out
          have hTB := TB.out.ext E3.out
          have HAP := OW.out.ext E3.out
          have B7 : Hid (Blk w7 rb 85 _) := hide ((g7.block rb hRB.lt (fun e => HAP.apartB hRB (by decide) e.symm)).trans hRB)
          have T7 : Hid (Blk w7 tb 53 _) := hide ((g7.block tb hTB.lt (fun e => by have := (HR0.out.trk.lt tb e.symm).2; have := LO2.out; omega)).trans hTB)
          have k7 : w7.cell? ⟨rb, 2, none⟩ = some tv := B7.out.cell 2
          have f7 := B7.out.frozen 2
          clear o7 g7 r7 hn7 hRB HAP hTB
          refine hK.out _ _ (fun h => S26.of B7.out T7.out) ?_
          clear hK K
          try simp only [Act.put, List.setIfInBounds_toArray, List.set_cons_zero, List.set_cons_succ]
          refine AnyZ.step (i := 9) rfl (by kernel_rfl) (fun K hK => ?_)
          go_simp
          refine hK.out _ _ (fun h => ?_) ?_
          · exact S26.of B7.out T7.out
          clear hK K
          try simp only [Act.put, List.setIfInBounds_toArray, List.set_cons_zero, List.set_cons_succ]
          refine AnyZ.step (i := 10) rfl (by kernel_rfl) (fun K hK => ?_)
          go_simp
          refine hK.out _ _ (fun h => ?_) ?_
          · exact S26.of B7.out T7.out
          clear hK K
          try simp only [Act.put, List.setIfInBounds_toArray, List.set_cons_zero, List.set_cons_succ]
          refine AnyZ.step (i := 11) rfl (by kernel_rfl) (fun K hK => ?_)
          go_simp
          refine hK.out _ _ (fun h => ?_) ?_
          · exact absurd (h.symm.trans (show _ = true by kernel_rfl)) (by simp)
          clear hK K
          try simp only [Act.put, List.setIfInBounds_toArray, List.set_cons_zero, List.set_cons_succ]
          refine AnyZ.step (i := 12) rfl (by kernel_rfl) (fun K hK => ?_)
          go_simp
          refine hK.out _ _ (fun h => ?_) ?_
          · exact absurd (h.symm.trans (show _ = true by kernel_rfl)) (by simp)
          clear hK K
          try simp only [Act.put, List.setIfInBounds_toArray, List.set_cons_zero, List.set_cons_succ]
          refine AnyZ.done (by kernel_rfl) ?_ _
          clear k7 f7
          go_wp2_with fail
          refine bodyPost_ret (v := .tuple #[]) (by simp [results, Try.results61, go_sem]) rfl ?_
          have hT8 := Tw.set_ w7 rb 2 (.slice A7 n7 c7) none
          have hB8 := B7.out.set_ 2 (.slice A7 n7 c7)
          have hKP : KpF w (w7.setCell ⟨rb, 2, none⟩ (.slice A7 n7 c7)) := KpF.chain KPQ.out (fun t cs h1 h2 _ g hb => by
            have hb2 : Blk w3 g t cs := hb.ext E3.out
            exact Blk.off ((G7.out.block g hb2.lt (fun e => (OW.out.ext E3.out).apartB hb2 (Ne.symm h2) e.symm)).trans hb2) B7.out hT8 h1)
          have hLO : Below rb w (w7.setCell ⟨rb, 2, none⟩ (.slice A7 n7 c7)) := Below.chain LOQ.out (Below.chain (Below.ofExt E3.out (Nat.le_of_lt BK.out.lt)) (Below.chain ((Below.refl rb w3).grown G7.out (by have := S3.out; omega) (fun g e => by have := (OW.out.lt g e).1; omega)) (Below.ofTw hT8 (Nat.le_of_lt B7.out.lt) (Nat.le_refl _))))
          exact FtG.bad HE.out hKP hLO hB8
      case inr.inr.inr.inr =>
        obtain ⟨z, hz⟩ := HI.out.rd (by omega)
        have RD := hide hz
        have LO2 := hide HI.out.lo2
        clear hz
        have x5 : wl.cell? ⟨rb, 5, none⟩ = some (.int .i64 (-1)) := RD.out.blk.cell 5
        by_cases hlt : 4 < nn
        · have HE := hide (trkR_five HI.out.oks (by omega))
          obtain ⟨oA, pA, rfl, _⟩ := HPO.out.at_.addr (by omega)
          have hd := HPO.out.hd 4 hlt
          have hat := HPO.out.at_
          obtain ⟨u, hu⟩ : ∃ u, ks.getD 4 default = u := ⟨_, rfl⟩
          rw [hu] at hd
          obtain ⟨uk, ug, ud, ue, uA, un, uc⟩ := u
          have a0 : wl.cell? ⟨oA, pA + 20, none⟩ = some (.string ⟨uk.toArray⟩) := by simpa [Nat.add_assoc] using hat.cellK (k := 4) hlt default 0 _ (by rw [hu]; rfl)
          have a1 : wl.cell? ⟨oA, pA + 21, none⟩ = some (.int .i64 (ug : Int)) := by simpa [Nat.add_assoc] using hat.cellK (k := 4) hlt default 1 _ (by rw [hu]; rfl)
          have a2 : wl.cell? ⟨oA, pA + 22, none⟩ = some (.int .i64 (ud : Int)) := by simpa [Nat.add_assoc] using hat.cellK (k := 4) hlt default 2 _ (by rw [hu]; rfl)
          have a3 : wl.cell? ⟨oA, pA + 23, none⟩ = some (.int .i64 (ue : Int)) := by simpa [Nat.add_assoc] using hat.cellK (k := 4) hlt default 3 _ (by rw [hu]; rfl)
          have a4 : wl.cell? ⟨oA, pA + 24, none⟩ = some (.slice uA un uc) := by simpa [Nat.add_assoc] using hat.cellK (k := 4) hlt default 4 _ (by rw [hu]; rfl)
          have hug : ug = (x.kids.getD 4 dN).beg := hd.beg
          rw [← hug] at HE
          have i1 : (4 : Int) < (nn : Int) := by omega
          clear hd hat hu hug
          go_upto_region 7 with (fail)
          refine gen_wpC fun w2 h2 => ?_
          obtain ⟨kb, hkb2⟩ : ∃ kb, kb = wl.heap.size := ⟨_, rfl⟩
          rw [← hkb2]
          have E2 : Hid (Ext wl w2) := hide (by rw [h2]; exact Ext.alloc _ _)
          have K2 : Hid (Blk w2 kb 87 #[.string ⟨uk.toArray⟩, .int .i64 (ug : Int), .int .i64 (ud : Int), .int .i64 (ue : Int), .slice uA un uc]) := hide (by rw [h2, hkb2]; exact Blk.new _ _ _)
          have R2 := hide (RD.out.ext E2.out)
          clear h2 hkb2 a0 a1 a2 a3 a4 x5
          have k1 : w2.cell? ⟨kb, 1, none⟩ = some (.int .i64 (ug : Int)) := K2.out.cell 1
          have HXP := hide (fun (W : World) (hW : Ext w2 W) => expect_bad ug (R2.out.ext hW).blk)
          refine region_z (S := fun _ => True) 16 (by kernel_rfl) ?_
          refine AnyZ.takePE (i := 0) (d := 33) (oi := _) (v := ?_) rfl rfl (by kernel_rfl) (by kernel_rfl) (by kernel_rfl) (by kernel_rfl) (fun _ _ _ h => h) (Or.inl ⟨by rfl, ?_⟩) trivial ?_
          rotate_left
          · intro W hW; first | (go_simp; done) | (go_simp; with_reducible rfl)
          try simp only [Act.put, List.setIfInBounds_toArray, List.set_cons_zero, List.set_cons_succ]
          refine AnyZ.takePE (i := 1) (d := 34) (oi := _) (v := ?_) rfl rfl (by kernel_rfl) (by kernel_rfl) (by kernel_rfl) (by kernel_rfl) (fun _ _ _ h => h) (Or.inl ⟨by rfl, ?_⟩) trivial ?_
          rotate_left
          · intro W hW; first | (go_simp; done) | (go_simp; with_reducible rfl)
          try simp only [Act.put, List.setIfInBounds_toArray, List.set_cons_zero, List.set_cons_succ]
          refine AnyZ.takePE (i := 2) (d := 35) (oi := _) (v := ?_) rfl rfl (by kernel_rfl) (by kernel_rfl) (by kernel_rfl) (by kernel_rfl) (fun _ _ _ h => h) (Or.inl ⟨by rfl, ?_⟩) trivial ?_
          rotate_left
          · intro W hW; first | (go_simp; done) | (go_simp; with_reducible rfl)
          try simp only [Act.put, List.setIfInBounds_toArray, List.set_cons_zero, List.set_cons_succ]
          refine AnyZ.takePE (i := 3) (d := 36) (oi := _) (v := ?_) rfl rfl (by kernel_rfl) (by kernel_rfl) (by kernel_rfl) (by kernel_rfl) (fun _ _ _ h => h) (Or.inl ⟨by rfl, ?_⟩) trivial ?_
          rotate_left
          · intro W hW; first | (go_simp; done) | (go_simp; with_reducible rfl)
          try simp only [Act.put, List.setIfInBounds_toArray, List.set_cons_zero, List.set_cons_succ]
          refine AnyZ.takePE (i := 4) (d := 37) (oi := _) (v := undef) rfl rfl (by kernel_rfl) (by kernel_rfl) (by kernel_rfl) (by kernel_rfl) (fun _ _ _ h => h) (Or.inr ⟨by rfl, rfl⟩) trivial ?_
          try simp only [Act.put, List.setIfInBounds_toArray, List.set_cons_zero, List.set_cons_succ]
          refine AnyZ.takePE (i := 5) (d := 38) (oi := _) (v := undef) rfl rfl (by kernel_rfl) (by kernel_rfl) (by kernel_rfl) (by kernel_rfl) (fun _ _ _ h => h) (Or.inr ⟨by rfl, rfl⟩) trivial ?_
          try simp only [Act.put, List.setIfInBounds_toArray, List.set_cons_zero, List.set_cons_succ]
          refine AnyZ.takePE (i := 6) (d := 39) (oi := _) (v := undef) rfl rfl (by kernel_rfl) (by kernel_rfl) (by kernel_rfl) (by kernel_rfl) (fun _ _ _ h => h) (Or.inr ⟨by rfl, rfl⟩) trivial ?_
          try simp only [Act.put, List.setIfInBounds_toArray, List.set_cons_zero, List.set_cons_succ]
          refine AnyZ.takePE (i := 7) (d := 40) (oi := _) (v := undef) rfl rfl (by kernel_rfl) (by kernel_rfl) (by kernel_rfl) (by kernel_rfl) (fun _ _ _ h => h) (Or.inr ⟨by rfl, rfl⟩) trivial ?_
          try simp only [Act.put, List.setIfInBounds_toArray, List.set_cons_zero, List.set_cons_succ]
          refine AnyZ.takePE (i := 8) (d := 41) (oi := _) (v := undef) rfl rfl (by kernel_rfl) (by kernel_rfl) (by kernel_rfl) (by kernel_rfl) (fun _ _ _ h => h) (Or.inr ⟨by rfl, rfl⟩) trivial ?_
          try simp only [Act.put, List.setIfInBounds_toArray, List.set_cons_zero, List.set_cons_succ]
          refine AnyZ.takePE (i := 9) (d := 42) (oi := _) (v := undef) rfl rfl (by kernel_rfl) (by kernel_rfl) (by kernel_rfl) (by kernel_rfl) (fun _ _ _ h => h) (Or.inr ⟨by rfl, rfl⟩) trivial ?_
          try simp only [Act.put, List.setIfInBounds_toArray, List.set_cons_zero, List.set_cons_succ]
          refine AnyZ.takePE (i := 10) (d := 43) (oi := _) (v := undef) rfl rfl (by kernel_rfl) (by kernel_rfl) (by kernel_rfl) (by kernel_rfl) (fun _ _ _ h => h) (Or.inr ⟨by rfl, rfl⟩) trivial ?_
          try simp only [Act.put, List.setIfInBounds_toArray, List.set_cons_zero, List.set_cons_succ]
          refine AnyZ.takePE (i := 11) (d := 44) (oi := _) (v := undef) rfl rfl (by kernel_rfl) (by kernel_rfl) (by kernel_rfl) (by kernel_rfl) (fun _ _ _ h => h) (Or.inr ⟨by rfl, rfl⟩) trivial ?_
          try simp only [Act.put, List.setIfInBounds_toArray, List.set_cons_zero, List.set_cons_succ]
          refine AnyZ.takePE (i := 12) (d := 45) (oi := _) (v := ?_) rfl rfl (by kernel_rfl) (by kernel_rfl) (by kernel_rfl) (by kernel_rfl) (fun _ _ _ h => h) (Or.inl ⟨by rfl, ?_⟩) trivial ?_
          rotate_left
          · intro W hW; first | (go_simp; done) | (go_simp; with_reducible rfl)
          try simp only [Act.put, List.setIfInBounds_toArray, List.set_cons_zero, List.set_cons_succ]
          refine AnyZ.takePE (i := 13) (d := 46) (oi := _) (v := ?_) rfl rfl (by kernel_rfl) (by kernel_rfl) (by kernel_rfl) (by kernel_rfl) (fun _ _ _ h => h) (Or.inl ⟨by rfl, ?_⟩) trivial ?_
          rotate_left
          · intro W hW; first | (go_simp; done) | (go_simp; with_reducible rfl)
          try simp only [Act.put, List.setIfInBounds_toArray, List.set_cons_zero, List.set_cons_succ]
          refine AnyZ.step (i := 14) rfl (by kernel_rfl) (fun K hK => ?_)
          go_simp
          refine hK.out _ _ (fun h => trivial) ?_
          clear hK K
          try simp only [Act.put, List.setIfInBounds_toArray, List.set_cons_zero, List.set_cons_succ]
          refine AnyZ.step (i := 15) rfl (by kernel_rfl) (fun K hK => ?_)
          go_simp
          go_at_call 33
          refine (HXP.out _ (Ext.drew _)).mono ?_
          rintro e w3 ⟨rfl, p1, p2⟩
          have HB1 := hide p1
          have HT1 := hide p2
          clear p1 p2
          refine hK.out _ _ (fun h => trivial) ?_
          clear hK K
          try simp only [Act.put, List.setIfInBounds_toArray, List.set_cons_zero, List.set_cons_succ]
          refine AnyZ.step (i := 16) rfl (by kernel_rfl) (fun K hK => ?_)
          go_simp
          refine hK.out _ _ (fun h => trivial) ?_
          clear hK K
          try simp only [Act.put, List.setIfInBounds_toArray, List.set_cons_zero, List.set_cons_succ]
          refine AnyZ.done (by kernel_rfl) ?_ _
          go_wp2_with fail
          refine bodyPost_ret (v := .tuple #[]) (by simp [results, Try.results61, go_sem]) rfl ?_
          exact FtG.bad HE.out (KpF.chain HI.out.kp (KpF.chain (KpF.ofExt (Ext.trans E2.out (Ext.drew _))) (KpF.ofTw (R2.out.ext (Ext.drew _)).blk HT1.out))) (Below.chain HI.out.low (Below.chain (Below.ofExt (Ext.trans E2.out (Ext.drew _)) (Nat.le_of_lt RD.out.blk.lt)) (Below.ofTw HT1.out (Nat.le_of_lt (R2.out.ext (Ext.drew _)).blk.lt) (Nat.le_refl _)))) HB1.out
        · obtain rfl : nn = 4 := by omega
          have HE := hide (trkR_ok HI.out.oks (by omega))
          have HXG := hide (expect_good (x.en : Int) RD.out.blk)
          obtain ⟨wq, hwq⟩ : ∃ wq, wq = wl := ⟨_, rfl⟩
          have BK : Hid (Blk wq rb 85 (fiC (.slice bA bn bc) sc tv bv' dv (-1))) := hide (by rw [hwq]; exact RD.out.blk)
          obtain ⟨nm, hnm⟩ : ∃ nm, nmK b x 4 = nm := ⟨_, rfl⟩
          obtain ⟨s, hs_⟩ : ∃ s, scK b x 4 = s := ⟨_, rfl⟩
          have TB : Hid (Blk wq tb 53 #[.string ⟨nm.toArray⟩, .int .i64 s, .slice none 0 0, .slice eA en ec]) := hide (by rw [hwq, ← hnm, ← hs_]; exact HI.out.trk)
          have OW : Hid (Own wq (rb + 1) 53 4 eTk tv hs) := hide (by rw [hwq]; exact RD.out.trk)
          have KPQ : Hid (KpF w wq) := hide (by rw [hwq]; exact HI.out.kp)
          have LOQ : Hid (Below rb w wq) := hide (by rw [hwq]; exact HI.out.low)
          have HNM := hide hnm
          have HSS := hide hs_
          have HED := hide HI.out.ed
          rw [← hwq] at RD HED HXG n3 n4 x5 ⊢
          clear hwq hnm hs_ HI HPO
          go_upto_region 26 with ((go_at_call 33; with_reducible refine HXG.out.mono ?_); rintro e w' ⟨rfl, rfl⟩)
          have S1 : Hid (hs.length + 1 ≤ maxLen) := hide (by have := HR0.out.len; unfold maxLen; omega)
          have S2 : Hid ((hs.length + 1) * 72 ≤ 140737488355328) := hide (by have := HR0.out.len; omega)
          refine region_z (S := S26 rb tb tv nm s eA en ec) 11 (by kernel_rfl) ?_
          refine AnyZ.takeE (i := 0) (d := 143) (oi := _) (v := ?_) rfl rfl rfl (by kernel_rfl) (by kernel_rfl) (by kernel_rfl) (by kernel_rfl) (by kernel_rfl) (by kernel_rfl) (fun _ _ _ h => h) (Or.inl ⟨by rfl, ?_⟩) (S26.of (BK.out.ext (Ext.drew _)) (TB.out.ext (Ext.drew _))) ?_
          rotate_left
          · intro W hW; obtain ⟨s1, s2, s3, s4, s5⟩ := hW; first | (go_simp; done) | (go_simp; with_reducible rfl)
          try simp only [Act.put, List.setIfInBounds_toArray, List.set_cons_zero, List.set_cons_succ]
          refine AnyZ.takeE (i := 1) (d := 144) (oi := _) (v := ?_) rfl rfl rfl (by kernel_rfl) (by kernel_rfl) (by kernel_rfl) (by kernel_rfl) (by kernel_rfl) (by kernel_rfl) (fun _ _ _ h => h) (Or.inl ⟨by rfl, ?_⟩) (S26.of (BK.out.ext (Ext.drew _)) (TB.out.ext (Ext.drew _))) ?_
          rotate_left
          · intro W hW; obtain ⟨s1, s2, s3, s4, s5⟩ := hW; first | (go_simp; done) | (go_simp; with_reducible rfl)
          try simp only [Act.put, List.setIfInBounds_toArray, List.set_cons_zero, List.set_cons_succ]
          refine AnyZ.takeE (i := 2) (d := 145) (oi := _) (v := ?_) rfl rfl rfl (by kernel_rfl) (by kernel_rfl) (by kernel_rfl) (by kernel_rfl) (by kernel_rfl) (by kernel_rfl) (fun _ _ _ h => h) (Or.inl ⟨by rfl, ?_⟩) (S26.of (BK.out.ext (Ext.drew _)) (TB.out.ext (Ext.drew _))) ?_
          rotate_left
          · intro W hW; obtain ⟨s1, s2, s3, s4, s5⟩ := hW; first | (go_simp; done) | (go_simp; with_reducible rfl)
          try simp only [Act.put, List.setIfInBounds_toArray, List.set_cons_zero, List.set_cons_succ]
          refine AnyZ.takeE (i := 3) (d := 146) (oi := _) (v := ?_) rfl rfl rfl (by kernel_rfl) (by kernel_rfl) (by kernel_rfl) (by kernel_rfl) (by kernel_rfl) (by kernel_rfl) (fun _ _ _ h => h) (Or.inl ⟨by rfl, ?_⟩) (S26.of (BK.out.ext (Ext.drew _)) (TB.out.ext (Ext.drew _))) ?_
          rotate_left
          · intro W hW; obtain ⟨s1, s2, s3, s4, s5⟩ := hW; first | (go_simp; done) | (go_simp; with_reducible rfl)
          try simp only [Act.put, List.setIfInBounds_toArray, List.set_cons_zero, List.set_cons_succ]
          refine AnyZ.takeE (i := 4) (d := 147) (oi := _) (v := ?_) rfl rfl rfl (by kernel_rfl) (by kernel_rfl) (by kernel_rfl) (by kernel_rfl) (by kernel_rfl) (by kernel_rfl) (fun _ _ _ h => h) (Or.inl ⟨by rfl, ?_⟩) (S26.of (BK.out.ext (Ext.drew _)) (TB.out.ext (Ext.drew _))) ?_
          rotate_left
          · intro W hW; obtain ⟨s1, s2, s3, s4, s5⟩ := hW; first | (go_simp; done) | (go_simp; with_reducible rfl)
          try simp only [Act.put, List.setIfInBounds_toArray, List.set_cons_zero, List.set_cons_succ]
          refine AnyZ.takeE (i := 5) (d := 148) (oi := _) (v := ?_) rfl rfl rfl (by kernel_rfl) (by kernel_rfl) (by kernel_rfl) (by kernel_rfl) (by kernel_rfl) (by kernel_rfl) (fun _ _ _ h => h) (Or.inl ⟨by rfl, ?_⟩) (S26.of (BK.out.ext (Ext.drew _)) (TB.out.ext (Ext.drew _))) ?_
          rotate_left
          · intro W hW; obtain ⟨s1, s2, s3, s4, s5⟩ := hW; first | (go_simp; done) | (go_simp; with_reducible rfl)
          try simp only [Act.put, List.setIfInBounds_toArray, List.set_cons_zero, List.set_cons_succ]
          refine AnyZ.takeE (i := 6) (d := 149) (oi := _) (v := ?_) rfl rfl rfl (by kernel_rfl) (by kernel_rfl) (by kernel_rfl) (by kernel_rfl) (by kernel_rfl) (by kernel_rfl) (fun _ _ _ h => h) (Or.inl ⟨by rfl, ?_⟩) (S26.of (BK.out.ext (Ext.drew _)) (TB.out.ext (Ext.drew _))) ?_
          rotate_left
          · intro W hW; obtain ⟨s1, s2, s3, s4, s5⟩ := hW; first | (go_simp; done) | (go_simp; with_reducible rfl)
          try simp only [Act.put, List.setIfInBounds_toArray, List.set_cons_zero, List.set_cons_succ]
          refine AnyZ.step (i := 7) rfl (by kernel_rfl) (fun K hK => ?_)
          go_simp
          refine gen_hkT hK fun w3 hw3 => ?_
          have E3 : Hid (Ext wq w3) := hide (by rw [hw3]; exact Ext.trans (Ext.drew _) (Ext.alloc _ _))
          have A3 : Hid (At w3 4 eTk (some ⟨wq.drew.heap.size, 0, none⟩) 1 1 [(⟨nm, s, none, 0, 0, eA, en, ec⟩ : TrkH)]) := hide (by rw [hw3]; exact At.newE (enc := eTk) wq.drew _ _ _ rfl)
          refine ⟨fun h => S26.of (BK.out.ext E3.out) (TB.out.ext E3.out), ?_⟩
          clear hK K hw3
          try simp only [Act.put, List.setIfInBounds_toArray, List.set_cons_zero, List.set_cons_succ]
          refine AnyZ.step (i := 8) rfl (by kernel_rfl) (fun K hK => ?_)
          have S3 : Hid (rb + 1 ≤ w3.heap.size) := hide (by have := BK.out.lt; have := E3.out.size; omega)
          refine step_append_at rfl _ _ 22 rfl (rb + 1) 53 k0_ _ 72 Try.underlying22 hk0 hx0 hx1 hx2 rfl (by omega) len_eTk one_eTk tv hs (by rfl) (OW.out.ext E3.out) (some ⟨wq.drew.heap.size, 0, none⟩) 1 1 _ (by rfl) A3.out S1.out S2.out S3.out ?_
          intro v7 w7 o7 g7 _ r7
          obtain ⟨A7, c7, hv7, _⟩ := o7.at_ len_eTk
          obtain ⟨n7, hn7⟩ : ∃ n7, (hs ++ [(⟨nm, s, none, 0, 0, eA, en, ec⟩ : TrkH)]).length = n7 := ⟨_, rfl⟩
          rw [hn7] at hv7
          subst hv7
          have O7 := hide o7
          have G7 := hide g7
          have RR7 := hide r7
          have hRB := BK.out.ext E3.out
          have hTB := TB.out.ext E3.out
          have HAP := OW.out.ext E3.out
          have B7 : Hid (Blk w7 rb 85 _) := hide ((g7.block rb hRB.lt (fun e => HAP.apartB hRB (by decide) e.symm)).trans hRB)
          have T7 : Hid (Blk w7 tb 53 _) := hide ((g7.block tb hTB.lt (fun e => by have := (HR0.out.trk.lt tb e.symm).2; have := LO2.out; omega)).trans hTB)
          have k7 : w7.cell? ⟨rb, 2, none⟩ = some tv := B7.out.cell 2
          have f7 := B7.out.frozen 2
          clear o7 g7 r7 hn7 hRB HAP hTB
          refine hK.out _ _ (fun h => S26.of B7.out T7.out) ?_
          clear hK K
          try simp only [Act.put, List.setIfInBounds_toArray, List.set_cons_zero, List.set_cons_succ]
          refine AnyZ.step (i := 9) rfl (by kernel_rfl) (fun K hK => ?_)
          go_simp
          refine hK.out _ _ (fun h => ?_) ?_
          · exact S26.of B7.out T7.out
          clear hK K
          try simp only [Act.put, List.setIfInBounds_toArray, List.set_cons_zero, List.set_cons_succ]
          refine AnyZ.step (i := 10) rfl (by kernel_rfl) (fun K hK => ?_)
          go_simp
          refine hK.out _ _ (fun h => ?_) ?_
          · exact S26.of B7.out T7.out
          clear hK K
          try simp only [Act.put, List.setIfInBounds_toArray, List.set_cons_zero, List.set_cons_succ]
          refine AnyZ.step (i := 11) rfl (by kernel_rfl) (fun K hK => ?_)
          go_simp
          refine hK.out _ _ (fun h => ?_) ?_
          · exact absurd (h.symm.trans (show _ = true by kernel_rfl)) (by simp)
          clear hK K
          try simp only [Act.put, List.setIfInBounds_toArray, List.set_cons_zero, List.set_cons_succ]
          refine AnyZ.step (i := 12) rfl (by kernel_rfl) (fun K hK => ?_)
          go_simp
          refine hK.out _ _ (fun h => ?_) ?_
          · exact absurd (h.symm.trans (show _ = true by kernel_rfl)) (by simp)
          clear hK K
          try simp only [Act.put, List.setIfInBounds_toArray, List.set_cons_zero, List.set_cons_succ]
          refine AnyZ.done (by kernel_rfl) ?_ _
          clear k7 f7
          go_wp2_with fail
          refine bodyPost_ret (v := .tuple #[]) (by simp [results, Try.results61, go_sem]) rfl ?_
          have hT8 := Tw.set_ w7 rb 2 (.slice A7 n7 c7) none
          have hB8 := B7.out.set_ 2 (.slice A7 n7 c7)
          have hKP : KpF w (w7.setCell ⟨rb, 2, none⟩ (.slice A7 n7 c7)) := KpF.chain KPQ.out (fun t cs h1 h2 _ g hb => by
            have hb2 : Blk w3 g t cs := hb.ext E3.out
            exact Blk.off ((G7.out.block g hb2.lt (fun e => (OW.out.ext E3.out).apartB hb2 (Ne.symm h2) e.symm)).trans hb2) B7.out hT8 h1)
          have hLO : Below rb w (w7.setCell ⟨rb, 2, none⟩ (.slice A7 n7 c7)) := Below.chain LOQ.out (Below.chain (Below.ofExt E3.out (Nat.le_of_lt BK.out.lt)) (Below.chain ((Below.refl rb w3).grown G7.out (by have := S3.out; omega) (fun g e => by have := (OW.out.lt g e).1; omega)) (Below.ofTw hT8 (Nat.le_of_lt B7.out.lt) (Nat.le_refl _))))
          have hED := HED.out
          refine ⟨rfl, hKP, hLO, fun x' hx' => ⟨.slice A7 n7 c7, bv', ⟨nm, s, none, 0, 0, eA, en, ec⟩, z, ?_⟩, fun a' ha' => by rw [HE.out] at ha'; cases ha'⟩
          rw [HE.out] at hx'
          cases hx'
          refine RD.out.track (G' := fun k => (Value.slice eA en ec).ownBlock = some k) E3.out ⟨⟨HNM.out.symm, HSS.out.symm, At.nil _ _ _, hED.atS len_e2⟩, (fun h0 => by exact absurd h0 (Nat.lt_irrefl 0)), fun _ a ha => by subst ha; rfl⟩ (fun k hk => ⟨by have := (hED.lt k hk).1; omega, (hED.lt k hk).2, fun e => hED.apart RD.out.trk (by decide) k hk e, fun e => hED.apart RD.out.tab (by decide) k hk e, fun e => by have := HR0.out.dlt k e; have := (hED.lt k hk).1; omega⟩) O7.out G7.out RR7.out hT8 hB8
    · have HE := hide HB.out.2
      obtain ⟨⟨nm, s, eA, en, ec, htb⟩, ⟨bv', hbk⟩⟩ := And.intro HB.out.1.trk HB.out.1.blk
      have HBX := hide HB.out.1
      have BK0 := hide hbk
      have TB0 := hide htb
      have n3 : wl.cell? ⟨nb, 3, none⟩ = some (.int .i64 (x.en : Int)) := HBX.out.nod.cell 3
      have n4 : wl.cell? ⟨nb, 4, none⟩ = some (.slice nA nn nc) := HBX.out.nod.cell 4
      have x5 : wl.cell? ⟨rb, 5, none⟩ = some (.int .i64 (a : Int)) := hbk.cell 5
      have ha0 : ¬ (a : Int) < 0 := by omega
      have HXO := hide (fun (ok : Bool) => expect_old ok (x.en : Int) a hbk)
      clear hbk htb HB
      obtain ⟨wq, hwq⟩ : ∃ wq, wq = wl := ⟨_, rfl⟩
      have BK : Hid (Blk wq rb 85 (fiC (.slice bA bn bc) sc tv bv' dv (a : Int))) := hide (by rw [hwq]; exact BK0.out)
      have TB : Hid (Blk wq tb 53 #[.string ⟨nm.toArray⟩, .int .i64 s, .slice none 0 0, .slice eA en ec]) := hide (by rw [hwq]; exact TB0.out)
      have OW : Hid (Own wq (rb + 1) 53 4 eTk tv hs) := hide (by rw [hwq]; exact HBX.out.own)
      have KPQ : Hid (KpF w wq) := hide (by rw [hwq]; exact HBX.out.kp)
      have LOQ : Hid (Below rb w wq) := hide (by rw [hwq]; exact HBX.out.low)
      have LO2 : Hid (w.heap.size ≤ tb) := hide LOT.out
      rw [← hwq] at HXO n3 n4 x5 ⊢
      clear hwq HBX BK0 TB0
      by_cases hlt : k < nn
      · have i1 : (k : Int) < (nn : Int) := by omega
        go_upto_region 26 with ((go_at_call 33; with_reducible refine (HXO.out _).mono ?_); rintro e w' ⟨rfl, rfl⟩)
        have S1 : Hid (hs.length + 1 ≤ maxLen) := hide (by have := HR0.out.len; unfold maxLen; omega)
        have S2 : Hid ((hs.length + 1) * 72 ≤ 140737488355328) := hide (by have := HR0.out.len; omega)
        refine region_z (S := S26 rb tb tv nm s eA en ec) 11 (by kernel_rfl) ?_
        refine AnyZ.takeE (i := 0) (d := 143) (oi := _) (v := ?_) rfl rfl rfl (by kernel_rfl) (by kernel_rfl) (by kernel_rfl) (by kernel_rfl) (by kernel_rfl) (by kernel_rfl) (fun _ _ _ h => h) (Or.inl ⟨by rfl, ?_⟩) (S26.of (BK.out.ext (Ext.drew _)) (TB.out.ext (Ext.drew _))) ?_
        rotate_left
        · intro W hW; obtain ⟨s1, s2, s3, s4, s5⟩ := hW; first | (go_simp; done) | (go_simp; with_reducible rfl)
        try simp only [Act.put, List.setIfInBounds_toArray, List.set_cons_zero, List.set_cons_succ]
        refine AnyZ.takeE (i := 1) (d := 144) (oi := _) (v := ?_) rfl rfl rfl (by kernel_rfl) (by kernel_rfl) (by kernel_rfl) (by kernel_rfl) (by kernel_rfl) (by kernel_rfl) (fun _ _ _ h => h) (Or.inl ⟨by rfl, ?_⟩) (S26.of (BK.out.ext (Ext.drew _)) (TB.out.ext (Ext.drew _))) ?_
        rotate_left
        · intro W hW; obtain ⟨s1, s2, s3, s4, s5⟩ := hW; first | (go_simp; done) | (go_simp; with_reducible rfl)
        try simp only [Act.put, List.setIfInBounds_toArray, List.set_cons_zero, List.set_cons_succ]
        refine AnyZ.takeE (i := 2) (d := 145) (oi := _) (v := ?_) rfl rfl rfl (by kernel_rfl) (by kernel_rfl) (by kernel_rfl) (by kernel_rfl) (by kernel_rfl) (by kernel_rfl) (fun _ _ _ h => h) (Or.inl ⟨by rfl, ?_⟩) (S26.of (BK.out.ext (Ext.drew _)) (TB.out.ext (Ext.drew _))) ?_
        rotate_left
        · intro W hW; obtain ⟨s1, s2, s3, s4, s5⟩ := hW; first | (go_simp; done) | (go_simp; with_reducible rfl)
        try simp only [Act.put, List.setIfInBounds_toArray, List.set_cons_zero, List.set_cons_succ]
        refine AnyZ.takeE (i := 3) (d := 146) (oi := _) (v := ?_) rfl rfl rfl (by kernel_rfl) (by kernel_rfl) (by kernel_rfl) (by kernel_rfl) (by kernel_rfl) (by kernel_rfl) (fun _ _ _ h => h) (Or.inl ⟨by rfl, ?_⟩) (S26.of (BK.out.ext (Ext.drew _)) (TB.out.ext (Ext.drew _))) ?_
        rotate_left
        · intro W hW; obtain ⟨s1, s2, s3, s4, s5⟩ := hW; first | (go_simp; done) | (go_simp; with_reducible rfl)
        try simp only [Act.put, List.setIfInBounds_toArray, List.set_cons_zero, List.set_cons_succ]
        refine AnyZ.takeE (i := 4) (d := 147) (oi := _) (v := ?_) rfl rfl rfl (by kernel_rfl) (by kernel_rfl) (by kernel_rfl) (by kernel_rfl) (by kernel_rfl) (by kernel_rfl) (fun _ _ _ h => h) (Or.inl ⟨by rfl, ?_⟩) (S26.of (BK.out.ext (Ext.drew _)) (TB.out.ext (Ext.drew _))) ?_
        rotate_left
        · intro W hW; obtain ⟨s1, s2, s3, s4, s5⟩ := hW; first | (go_simp; done) | (go_simp; with_reducible rfl)
        try simp only [Act.put, List.setIfInBounds_toArray, List.set_cons_zero, List.set_cons_succ]
        refine AnyZ.takeE (i := 5) (d := 148) (oi := _) (v := ?_) rfl rfl rfl (by kernel_rfl) (by kernel_rfl) (by kernel_rfl) (by kernel_rfl) (by kernel_rfl) (by kernel_rfl) (fun _ _ _ h => h) (Or.inl ⟨by rfl, ?_⟩) (S26.of (BK.out.ext (Ext.drew _)) (TB.out.ext (Ext.drew _))) ?_
        rotate_left
        · intro W hW; obtain ⟨s1, s2, s3, s4, s5⟩ := hW; first | (go_simp; done) | (go_simp; with_reducible rfl)
        try simp only [Act.put, List.setIfInBounds_toArray, List.set_cons_zero, List.set_cons_succ]
        refine AnyZ.takeE (i := 6) (d := 149) (oi := _) (v := ?_) rfl rfl rfl (by kernel_rfl) (by kernel_rfl) (by kernel_rfl) (by kernel_rfl) (by kernel_rfl) (by kernel_rfl) (fun _ _ _ h => h) (Or.inl ⟨by rfl, ?_⟩) (S26.of (BK.out.ext (Ext.drew _)) (TB.out.ext (Ext.drew _))) ?_
        rotate_left
        · intro W hW; obtain ⟨s1, s2, s3, s4, s5⟩ := hW; first | (go_simp; done) | (go_simp; with_reducible rfl)
        try simp only [Act.put, List.setIfInBounds_toArray, List.set_cons_zero, List.set_cons_succ]
        refine AnyZ.step (i := 7) rfl (by kernel_rfl) (fun K hK => ?_)
        go_simp
        refine gen_hkT hK fun w3 hw3 => ?_
        have E3 : Hid (Ext wq w3) := hide (by rw [hw3]; exact Ext.trans (Ext.drew _) (Ext.alloc _ _))
        have A3 : Hid (At w3 4 eTk (some ⟨wq.drew.heap.size, 0, none⟩) 1 1 [(⟨nm, s, none, 0, 0, eA, en, ec⟩ : TrkH)]) := hide (by rw [hw3]; exact At.newE (enc := eTk) wq.drew _ _ _ rfl)
        refine ⟨fun h => S26.of (BK.out.ext E3.out) (TB.out.ext E3.out), ?_⟩
        clear hK K hw3
        try simp only [Act.put, List.setIfInBounds_toArray, List.set_cons_zero, List.set_cons_succ]
        refine AnyZ.step (i := 8) rfl (by kernel_rfl) (fun K hK => ?_)
        have S3 : Hid (rb + 1 ≤ w3.heap.size) := hide (by have := BK.out.lt; have := E3.out.size; omega)
        refine step_append_at rfl _ _ 22 rfl (rb + 1) 53 k0_ _ 72 Try.underlying22 hk0 hx0 hx1 hx2 rfl (by omega) len_eTk one_eTk tv hs (by rfl) (OW.out.ext E3.out) (some ⟨wq.drew.heap.size, 0, none⟩) 1 1 _ (by rfl) A3.out S1.out S2.out S3.out ?_
        intro v7 w7 o7 g7 _ r7
        obtain ⟨A7, c7, hv7, _⟩ := o7.at_ len_eTk
        obtain ⟨n7, hn7⟩ : ∃ n7, (hs ++ [(⟨nm, s, none, 0, 0, eA, en, ec⟩ : TrkH)]).length = n7 := ⟨_, rfl⟩
        rw [hn7] at hv7
        subst hv7
        have O7 := hide o7
        have G7 := hide g7
        have RR7 := hide r7
        have hRB := BK.out.ext E3.out
        have hTB := TB.out.ext E3.out
        have HAP := OW.out.ext E3.out
        have B7 : Hid (Blk w7 rb 85 _) := hide ((g7.block rb hRB.lt (fun e => HAP.apartB hRB (by decide) e.symm)).trans hRB)
        have T7 : Hid (Blk w7 tb 53 _) := hide ((g7.block tb hTB.lt (fun e => by have := (HR0.out.trk.lt tb e.symm).2; have := LO2.out; omega)).trans hTB)
        have k7 : w7.cell? ⟨rb, 2, none⟩ = some tv := B7.out.cell 2
        have f7 := B7.out.frozen 2
        clear o7 g7 r7 hn7 hRB HAP hTB
        refine hK.out _ _ (fun h => S26.of B7.out T7.out) ?_
        clear hK K
        try simp only [Act.put, List.setIfInBounds_toArray, List.set_cons_zero, List.set_cons_succ]
        refine AnyZ.step (i := 9) rfl (by kernel_rfl) (fun K hK => ?_)
        go_simp
        refine hK.out _ _ (fun h => ?_) ?_
        · exact S26.of B7.out T7.out
        clear hK K
        try simp only [Act.put, List.setIfInBounds_toArray, List.set_cons_zero, List.set_cons_succ]
        refine AnyZ.step (i := 10) rfl (by kernel_rfl) (fun K hK => ?_)
        go_simp
        refine hK.out _ _ (fun h => ?_) ?_
        · exact S26.of B7.out T7.out
        clear hK K
        try simp only [Act.put, List.setIfInBounds_toArray, List.set_cons_zero, List.set_cons_succ]
        refine AnyZ.step (i := 11) rfl (by kernel_rfl) (fun K hK => ?_)
        go_simp
        refine hK.out _ _ (fun h => ?_) ?_
        · exact absurd (h.symm.trans (show _ = true by kernel_rfl)) (by simp)
        clear hK K
        try simp only [Act.put, List.setIfInBounds_toArray, List.set_cons_zero, List.set_cons_succ]
        refine AnyZ.step (i := 12) rfl (by kernel_rfl) (fun K hK => ?_)
        go_simp
        refine hK.out _ _ (fun h => ?_) ?_
        · exact absurd (h.symm.trans (show _ = true by kernel_rfl)) (by simp)
        clear hK K
        try simp only [Act.put, List.setIfInBounds_toArray, List.set_cons_zero, List.set_cons_succ]
        refine AnyZ.done (by kernel_rfl) ?_ _
        clear k7 f7
        go_wp2_with fail
        refine bodyPost_ret (v := .tuple #[]) (by simp [results, Try.results61, go_sem]) rfl ?_
        have hT8 := Tw.set_ w7 rb 2 (.slice A7 n7 c7) none
        have hB8 := B7.out.set_ 2 (.slice A7 n7 c7)
        have hKP : KpF w (w7.setCell ⟨rb, 2, none⟩ (.slice A7 n7 c7)) := KpF.chain KPQ.out (fun t cs h1 h2 _ g hb => by
          have hb2 : Blk w3 g t cs := hb.ext E3.out
          exact Blk.off ((G7.out.block g hb2.lt (fun e => (OW.out.ext E3.out).apartB hb2 (Ne.symm h2) e.symm)).trans hb2) B7.out hT8 h1)
        have hLO : Below rb w (w7.setCell ⟨rb, 2, none⟩ (.slice A7 n7 c7)) := Below.chain LOQ.out (Below.chain (Below.ofExt E3.out (Nat.le_of_lt BK.out.lt)) (Below.chain ((Below.refl rb w3).grown G7.out (by have := S3.out; omega) (fun g e => by have := (OW.out.lt g e).1; omega)) (Below.ofTw hT8 (Nat.le_of_lt B7.out.lt) (Nat.le_refl _))))
        exact FtG.bad HE.out hKP hLO hB8
      · have i1 : ¬ (k : Int) < (nn : Int) := by omega
        go_upto_region 26 with ((go_at_call 33; with_reducible refine (HXO.out _).mono ?_); rintro e w' ⟨rfl, rfl⟩)
        have S1 : Hid (hs.length + 1 ≤ maxLen) := hide (by have := HR0.out.len; unfold maxLen; omega)
        have S2 : Hid ((hs.length + 1) * 72 ≤ 140737488355328) := hide (by have := HR0.out.len; omega)
        refine region_z (S := S26 rb tb tv nm s eA en ec) 11 (by kernel_rfl) ?_
        refine AnyZ.takeE (i := 0) (d := 143) (oi := _) (v := ?_) rfl rfl rfl (by kernel_rfl) (by kernel_rfl) (by kernel_rfl) (by kernel_rfl) (by kernel_rfl) (by kernel_rfl) (fun _ _ _ h => h) (Or.inl ⟨by rfl, ?_⟩) (S26.of (BK.out.ext (Ext.drew _)) (TB.out.ext (Ext.drew _))) ?_
        rotate_left
        · intro W hW; obtain ⟨s1, s2, s3, s4, s5⟩ := hW; first | (go_simp; done) | (go_simp; with_reducible rfl)
        try simp only [Act.put, List.setIfInBounds_toArray, List.set_cons_zero, List.set_cons_succ]
        refine AnyZ.takeE (i := 1) (d := 144) (oi := _) (v := ?_) rfl rfl rfl (by kernel_rfl) (by kernel_rfl) (by kernel_rfl) (by kernel_rfl) (by kernel_rfl) (by kernel_rfl) (fun _ _ _ h => h) (Or.inl ⟨by rfl, ?_⟩) (S26.of (BK.out.ext (Ext.drew _)) (TB.out.ext (Ext.drew _))) ?_
        rotate_left
        · intro W hW; obtain ⟨s1, s2, s3, s4, s5⟩ := hW; first | (go_simp; done) | (go_simp; with_reducible rfl)
        try simp only [Act.put, List.setIfInBounds_toArray, List.set_cons_zero, List.set_cons_succ]
        refine AnyZ.takeE (i := 2) (d := 145) (oi := _) (v := ?_) rfl rfl rfl (by kernel_rfl) (by kernel_rfl) (by kernel_rfl) (by kernel_rfl) (by kernel_rfl) (by kernel_rfl) (fun _ _ _ h => h) (Or.inl ⟨by rfl, ?_⟩) (S26.of (BK.out.ext (Ext.drew _)) (TB.out.ext (Ext.drew _))) ?_
        rotate_left
        · intro W hW; obtain ⟨s1, s2, s3, s4, s5⟩ := hW; first | (go_simp; done) | (go_simp; with_reducible rfl)
        try simp only [Act.put, List.setIfInBounds_toArray, List.set_cons_zero, List.set_cons_succ]
        refine AnyZ.takeE (i := 3) (d := 146) (oi := _) (v := ?_) rfl rfl rfl (by kernel_rfl) (by kernel_rfl) (by kernel_rfl) (by kernel_rfl) (by kernel_rfl) (by kernel_rfl) (fun _ _ _ h => h) (Or.inl ⟨by rfl, ?_⟩) (S26.of (BK.out.ext (Ext.drew _)) (TB.out.ext (Ext.drew _))) ?_
        rotate_left
        · intro W hW; obtain ⟨s1, s2, s3, s4, s5⟩ := hW; first | (go_simp; done) | (go_simp; with_reducible rfl)
        try simp only [Act.put, List.setIfInBounds_toArray, List.set_cons_zero, List.set_cons_succ]
        refine AnyZ.takeE (i := 4) (d := 147) (oi := _) (v := ?_) rfl rfl rfl (by kernel_rfl) (by kernel_rfl) (by kernel_rfl) (by kernel_rfl) (by kernel_rfl) (by kernel_rfl) (fun _ _ _ h => h) (Or.inl ⟨by rfl, ?_⟩) (S26.of (BK.out.ext (Ext.drew _)) (TB.out.ext (Ext.drew _))) ?_
        rotate_left
        · intro W hW; obtain ⟨s1, s2, s3, s4, s5⟩ := hW; first | (go_simp; done) | (go_simp; with_reducible rfl)
        try simp only [Act.put, List.setIfInBounds_toArray, List.set_cons_zero, List.set_cons_succ]
        refine AnyZ.takeE (i := 5) (d := 148) (oi := _) (v := ?_) rfl rfl rfl (by kernel_rfl) (by kernel_rfl) (by kernel_rfl) (by kernel_rfl) (by kernel_rfl) (by kernel_rfl) (fun _ _ _ h => h) (Or.inl ⟨by rfl, ?_⟩) (S26.of (BK.out.ext (Ext.drew _)) (TB.out.ext (Ext.drew _))) ?_
        rotate_left
        · intro W hW; obtain ⟨s1, s2, s3, s4, s5⟩ := hW; first | (go_simp; done) | (go_simp; with_reducible rfl)
        try simp only [Act.put, List.setIfInBounds_toArray, List.set_cons_zero, List.set_cons_succ]
        refine AnyZ.takeE (i := 6) (d := 149) (oi := _) (v := ?_) rfl rfl rfl (by kernel_rfl) (by kernel_rfl) (by kernel_rfl) (by kernel_rfl) (by kernel_rfl) (by kernel_rfl) (fun _ _ _ h => h) (Or.inl ⟨by rfl, ?_⟩) (S26.of (BK.out.ext (Ext.drew _)) (TB.out.ext (Ext.drew _))) ?_
        rotate_left
        · intro W hW; obtain ⟨s1, s2, s3, s4, s5⟩ := hW; first | (go_simp; done) | (go_simp; with_reducible rfl)
        try simp only [Act.put, List.setIfInBounds_toArray, List.set_cons_zero, List.set_cons_succ]
        refine AnyZ.step (i := 7) rfl (by kernel_rfl) (fun K hK => ?_)
        go_simp
        refine gen_hkT hK fun w3 hw3 => ?_
        have E3 : Hid (Ext wq w3) := hide (by rw [hw3]; exact Ext.trans (Ext.drew _) (Ext.alloc _ _))
        have A3 : Hid (At w3 4 eTk (some ⟨wq.drew.heap.size, 0, none⟩) 1 1 [(⟨nm, s, none, 0, 0, eA, en, ec⟩ : TrkH)]) := hide (by rw [hw3]; exact At.newE (enc := eTk) wq.drew _ _ _ rfl)
        refine ⟨fun h => S26.of (BK.out.ext E3.out) (TB.out.ext E3.out), ?_⟩
        clear hK K hw3
        try simp only [Act.put, List.setIfInBounds_toArray, List.set_cons_zero, List.set_cons_succ]
        refine AnyZ.step (i := 8) rfl (by kernel_rfl) (fun K hK => ?_)
        have S3 : Hid (rb + 1 ≤ w3.heap.size) := hide (by have := BK.out.lt; have := E3.out.size; omega)
        refine step_append_at rfl _ _ 22 rfl (rb + 1) 53 k0_ _ 72 Try.underlying22 hk0 hx0 hx1 hx2 rfl (by omega) len_eTk one_eTk tv hs (by rfl) (OW.out.ext E3.out) (some ⟨wq.drew.heap.size, 0, none⟩) 1 1 _ (by rfl) A3.out S1.out S2.out S3.out ?_
        intro v7 w7 o7 g7 _ r7
        obtain ⟨A7, c7, hv7, _⟩ := o7.at_ len_eTk
        obtain ⟨n7, hn7⟩ : ∃ n7, (hs ++ [(⟨nm, s, none, 0, 0, eA, en, ec⟩ : TrkH)]).length = n7 := ⟨_, rfl⟩
        rw [hn7] at hv7
        subst hv7
        have O7 := hide o7
        have G7 := hide g7
        have RR7 := hide r7
        have hRB := BK.out.ext E3.out
        have hTB := TB.out.ext E3.out
        have HAP := OW.out.ext E3.out
        have B7 : Hid (Blk w7 rb 85 _) := hide ((g7.block rb hRB.lt (fun e => HAP.apartB hRB (by decide) e.symm)).trans hRB)
        have T7 : Hid (Blk w7 tb 53 _) := hide ((g7.block tb hTB.lt (fun e => by have := (HR0.out.trk.lt tb e.symm).2; have := LO2.out; omega)).trans hTB)
        have k7 : w7.cell? ⟨rb, 2, none⟩ = some tv := B7.out.cell 2
        have f7 := B7.out.frozen 2
        clear o7 g7 r7 hn7 hRB HAP hTB
        refine hK.out _ _ (fun h => S26.of B7.out T7.out) ?_
        clear hK K
        try simp only [Act.put, List.setIfInBounds_toArray, List.set_cons_zero, List.set_cons_succ]
        refine AnyZ.step (i := 9) rfl (by kernel_rfl) (fun K hK => ?_)
        go_simp
        refine hK.out _ _ (fun h => ?_) ?_
        · exact S26.of B7.out T7.out
        clear hK K
        try simp only [Act.put, List.setIfInBounds_toArray, List.set_cons_zero, List.set_cons_succ]
        refine AnyZ.step (i := 10) rfl (by kernel_rfl) (fun K hK => ?_)
        go_simp
        refine hK.out _ _ (fun h => ?_) ?_
        · exact S26.of B7.out T7.out
        clear hK K
        try simp only [Act.put, List.setIfInBounds_toArray, List.set_cons_zero, List.set_cons_succ]
        refine AnyZ.step (i := 11) rfl (by kernel_rfl) (fun K hK => ?_)
        go_simp
        refine hK.out _ _ (fun h => ?_) ?_
        · exact absurd (h.symm.trans (show _ = true by kernel_rfl)) (by simp)
        clear hK K
        try simp only [Act.put, List.setIfInBounds_toArray, List.set_cons_zero, List.set_cons_succ]
        refine AnyZ.step (i := 12) rfl (by kernel_rfl) (fun K hK => ?_)
        go_simp
        refine hK.out _ _ (fun h => ?_) ?_
        · exact absurd (h.symm.trans (show _ = true by kernel_rfl)) (by simp)
        clear hK K
        try simp only [Act.put, List.setIfInBounds_toArray, List.set_cons_zero, List.set_cons_succ]
        refine AnyZ.done (by kernel_rfl) ?_ _
        clear k7 f7
        go_wp2_with fail
        refine bodyPost_ret (v := .tuple #[]) (by simp [results, Try.results61, go_sem]) rfl ?_
        have hT8 := Tw.set_ w7 rb 2 (.slice A7 n7 c7) none
        have hB8 := B7.out.set_ 2 (.slice A7 n7 c7)
        have hKP : KpF w (w7.setCell ⟨rb, 2, none⟩ (.slice A7 n7 c7)) := KpF.chain KPQ.out (fun t cs h1 h2 _ g hb => by
          have hb2 : Blk w3 g t cs := hb.ext E3.out
          exact Blk.off ((G7.out.block g hb2.lt (fun e => (OW.out.ext E3.out).apartB hb2 (Ne.symm h2) e.symm)).trans hb2) B7.out hT8 h1)
        have hLO : Below rb w (w7.setCell ⟨rb, 2, none⟩ (.slice A7 n7 c7)) := Below.chain LOQ.out (Below.chain (Below.ofExt E3.out (Nat.le_of_lt BK.out.lt)) (Below.chain ((Below.refl rb w3).grown G7.out (by have := S3.out; omega) (fun g e => by have := (OW.out.lt g e).1; omega)) (Below.ofTw hT8 (Nat.le_of_lt B7.out.lt) (Nat.le_refl _))))
        exact FtG.bad HE.out hKP hLO hB8
end Go.Proofs.Ytlonhkjplijlcaa
