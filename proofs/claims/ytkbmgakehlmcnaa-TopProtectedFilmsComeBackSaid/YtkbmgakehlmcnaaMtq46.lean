/- Walk: track (the program's reader of films). Conditions as stated. Printed by trkA.py. -/
import Derived.Test.YtkbmgakehlmcnaaMtq42
import Derived.Test.YtkbmgakehlmcnaaMtq17
open List (setIfInBounds_toArray set_cons_zero set_cons_succ)
namespace Go.Proofs.Ytkbmgakehlmcnaa
open Go.RowKit
set_option linter.unusedVariables false in
set_option linter.unusedSimpArgs false in
set_option maxRecDepth 100000 in
set_option maxHeartbeats 16000000 in
theorem track_any {w : World} {rb : Nat} {sc : Int} {tv bv : Value} {a : Int} {hs : List TrkH} {l : List TrkT} {ts : List TbH} {tl : List Tab} {b : List UInt8} {y : NodeH} {x : NodeT} (hR : RdI w rb sc tv bv a hs l ts tl) (hx : NdC w b rb y x) (hlf : l.length ≤ 1000000) (hlb : tl.length ≤ 1000000) (hbl : b.length ≤ 1000000) :
    Calls Try.prog 56 #[.pointer (some ⟨rb, 0, none⟩), .agg #[.string ⟨y.box.kind.toArray⟩, .int .i64 y.box.form, .slice y.box.dA y.box.dn y.box.dc, .slice y.box.kA y.box.kn y.box.kc, .int .i64 (y.beg : Int), .int .i64 (y.dat : Int), .int .i64 (y.en : Int), .slice y.nA y.nn y.nc]] w (TrG w rb sc a hs l ts tl (trkR b x)) := by
  have HR0 := hide hR
  obtain ⟨yb, yg, yd, ye, nA, nn, nc⟩ := y
  have hen : ye = x.en := hx.en
  have hkd : NdsAt w b (fun k => k < rb) nA nn nc x.kids := hx.kids
  obtain ⟨ks, hks⟩ := nds_open hkd
  have HK0 := hide hks
  have hkl := hks.len
  have hkb := hks.at_.bound
  have hrb := hR.lt
  clear hx hR hks hkd
  subst hen
  dsimp only
  go_enter Try.func56, Try.ntmps56
  go_wp2_with fail
  refine gen_wpC fun w0 h0 => ?_
  have HBL := hide hbl
  obtain ⟨i0_, hi0, hz0, hz1, hz2⟩ := info_parts Try.info112
  obtain ⟨k0_, hk0, hx0, hx1, hx2⟩ := info_parts Try.info47
  obtain ⟨j0_, hj0, hy0, hy1, hy2⟩ := info_parts Try.info82
  obtain ⟨nb, hnb⟩ : ∃ nb, nb = w.heap.size := ⟨_, rfl⟩
  obtain ⟨tb, htb⟩ : ∃ tb, tb = w.heap.size + 1 := ⟨_, rfl⟩
  obtain ⟨sb, hsb⟩ : ∃ sb, sb = w.heap.size + 1 + 1 := ⟨_, rfl⟩
  have E0 : Ext w w0 := by rw [h0]; exact Ext.trans (Ext.alloc _ _) (Ext.trans (Ext.alloc _ _) (Ext.alloc _ _))
  have I0 : Hid (TkI w w0 rb nb tb sb sc a hs l ts tl b ⟨yb, yg, yd, x.en, nA, nn, nc⟩ x 0 tv bv bv none 0 0) := hide (by
    refine ⟨?_, ?_, ?_, Own.nil _ _ _ _ _, KpK.ofExt E0, Below.ofExt E0 (by omega), fun _ => ⟨E0, rfl⟩, fun h4 => by omega, fun j hj => by omega, by omega⟩
    · rw [h0, hnb]; exact ((Blk.new _ _ _).alloc _).alloc _
    · rw [h0, htb]; have := Blk.new (w.alloc (.cells #[.string ⟨yb.kind.toArray⟩, .int .i64 yb.form, .slice yb.dA yb.dn yb.dc, .slice yb.kA yb.kn yb.kc, .int .i64 (yg : Int), .int .i64 (yd : Int), .int .i64 (x.en : Int), .slice nA nn nc] 122)) 47 #[.string ⟨#[]⟩, .int .i64 0, .slice none 0 0, .slice none 0 0]; rw [World.size_alloc] at this; exact this.alloc _
    · rw [h0, hsb]; have := Blk.new ((w.alloc (.cells #[.string ⟨yb.kind.toArray⟩, .int .i64 yb.form, .slice yb.dA yb.dn yb.dc, .slice yb.kA yb.kn yb.kc, .int .i64 (yg : Int), .int .i64 (yd : Int), .int .i64 (x.en : Int), .slice nA nn nc] 122)).alloc (.cells #[.string ⟨#[]⟩, .int .i64 0, .slice none 0 0, .slice none 0 0] 47)) 9 #[.string ⟨kName.toArray⟩, .string ⟨kRate.toArray⟩, .string ⟨kEdit.toArray⟩, .string ⟨kTabl.toArray⟩]; rw [World.size_alloc, World.size_alloc] at this; exact this)
  try simp only [World.size_alloc]
  rw [← hsb, ← htb, ← hnb]
  clear h0 hnb htb hsb E0
  go_loopw [15] (fun ri wr => ∃ (k : Nat) (bv' : Value) (eA : Option Addr) (en ec : Nat), k ≤ 4 ∧ ri = .int .i64 (k : Int) ∧ Hid (TkI w wr rb nb tb sb sc a hs l ts tl b ⟨yb, yg, yd, x.en, nA, nn, nc⟩ x k tv bv bv' eA en ec)) (fun ri _ => 4 - (intOf ri).toNat)
  case atStart => exact ⟨0, bv, none, 0, 0, by omega, rfl, I0⟩
  case round =>
    clear I0
    obtain ⟨k, bv', eA, en, ec, hk, rfl, HI⟩ := hrel
    obtain ⟨wl, hwl⟩ : ∃ wl, wl = wr := ⟨_, rfl⟩
    have HNO := hide (HK0.out.below HI.out.low)
    have n6 : wr.cell? ⟨nb, 6, none⟩ = some (.int .i64 (x.en : Int)) := HI.out.nod.cell 6
    have n7 : wr.cell? ⟨nb, 7, none⟩ = some (.slice nA nn nc) := HI.out.nod.cell 7
    rcases (by omega : k = 0 ∨ k = 1 ∨ k = 2 ∨ k = 3 ∨ k = 4) with rfl | rfl | rfl | rfl | rfl
    case inl =>
      have HEX := hide (HI.out.ext (by omega)).1
      have HRD := hide (HR0.out.ext HEX.out)
      have s0 : wr.cell? ⟨sb, 0, none⟩ = some (.string ⟨kName.toArray⟩) := HI.out.str.cell 0
      have HHAS := hide (has_any 0 0 rfl kName x.en HRD.out.blk HNO.out)
      cases hkr : kidR x.kids 0 kName x.en with
      | bad a' =>
        have HE := hide (trkR_kid (k := 0) (by omega) HI.out.oks hkr)
        rw [hkr] at HHAS
        clear hkr
        go_wp2_with ((go_at_call 54; with_reducible refine HHAS.out.mono ?_); rintro e w' hh; obtain ⟨rfl, p1, p2⟩ := hh.2 _ rfl; have HB1 := hide p1; have HT1 := hide p2; clear p1 p2 hh)
        go_ret
        exact TrG.bad HE.out (KpK.chain HI.out.kp (KpK.ofTw HRD.out.blk HT1.out)) (Below.chain HI.out.low (Below.ofTw HT1.out (Nat.le_of_lt HRD.out.blk.lt) (Nat.le_refl _))) HB1.out
      | ok z =>
        obtain ⟨kl, kz, kk⟩ := kidR_ok hkr
        have HKR : Hid (kidR x.kids 0 (kK 0) x.en = .ok (x.kids.getD 0 dN)) := hide (by rw [kz]; exact hkr)
        rw [hkr] at HHAS
        obtain ⟨bA, oA, rfl, _⟩ := HNO.out.at_.addr (by omega)
        have hd := HNO.out.hd 0 (by omega)
        have hat := HNO.out.at_
        have hda := hd.data
        rw [data_boxOf (by rw [kz, kk]; rfl)] at hda
        obtain ⟨yz, hyz⟩ : ∃ yz, ks.getD 0 default = yz := ⟨_, rfl⟩
        rw [hyz] at hd hda
        have c2 : wr.cell? ⟨bA, oA + 2, none⟩ = some (.slice yz.box.dA yz.box.dn yz.box.dc) := by simpa using hat.cellK (k := 0) (by omega) default 2 _ (by rw [hyz]; rfl)
        have c4 : wr.cell? ⟨bA, oA + 4, none⟩ = some (.int .i64 (z.beg : Int)) := by have := hat.cellK (k := 0) (by omega) default 4 _ (by rw [hyz]; rfl); rw [hd.beg, kz] at this; simpa using this
        have hynn : 0 < nn := by omega
        obtain ⟨C, hC⟩ : ∃ C, ctB b (x.kids.getD 0 dN) = C := ⟨_, rfl⟩
        rw [hC] at hda
        have HC := hide hC
        have HDA := hide hda
        have HKZ := hide kz
        have HYZ := hide hyz
        have HKK := hide kk
        have hlc := hda.len
        have hlm := hda.bound
        have HBA : Hid (bA < rb) := hide (HNO.out.low _ rfl)
        clear hkr hd hat kl hyz kz kk hda hC
        have HCV := conv_bytes0 HDA.out
        have t0 : wr.cell? ⟨tb, 0, none⟩ = some _ := HI.out.trk.cell 0
        have tf := HI.out.trk.frozen 0
        go_wp2_with ((go_at_call 54; with_reducible refine HHAS.out.mono ?_); rintro e w' hh; obtain ⟨rfl, rfl⟩ := hh.1 _ rfl; clear hh)
        go_roundw
        case measure => simp [intOf]
        first | (refine (?_ : ∃ (_ : Nat), _)) | ((repeat apply Exists.intro); refine ⟨?_, rfl⟩)
        refine ⟨1, bv', eA, en, ec, by omega, by go_num, hide ?_⟩
        have hC := HC.out
        subst hC
        have hT := Tw.set_ wr tb 0 (.string ⟨(ctB b (x.kids.getD 0 dN)).toArray⟩) none
        exact HI.out.next (by omega) hrb hT (HI.out.trk.set_ 0 _) (HI.out.ed.tw hT (HI.out.ed.apartB HI.out.trk (by decide)) (by simp)) ⟨HKR.out, trivial⟩
    case inr.inl =>
      have HEX := hide (HI.out.ext (by omega)).1
      have HRD := hide (HR0.out.ext HEX.out)
      have s0 : wr.cell? ⟨sb, 1, none⟩ = some (.string ⟨kRate.toArray⟩) := HI.out.str.cell 1
      have HHAS := hide (has_any 1 1 rfl kRate x.en HRD.out.blk HNO.out)
      cases hkr : kidR x.kids 1 kRate x.en with
      | bad a' =>
        have HE := hide (trkR_kid (k := 1) (by omega) HI.out.oks hkr)
        rw [hkr] at HHAS
        clear hkr
        go_wp2_with ((go_at_call 54; with_reducible refine HHAS.out.mono ?_); rintro e w' hh; obtain ⟨rfl, p1, p2⟩ := hh.2 _ rfl; have HB1 := hide p1; have HT1 := hide p2; clear p1 p2 hh)
        go_ret
        exact TrG.bad HE.out (KpK.chain HI.out.kp (KpK.ofTw HRD.out.blk HT1.out)) (Below.chain HI.out.low (Below.ofTw HT1.out (Nat.le_of_lt HRD.out.blk.lt) (Nat.le_refl _))) HB1.out
      | ok z =>
        obtain ⟨kl, kz, kk⟩ := kidR_ok hkr
        have HKR : Hid (kidR x.kids 1 (kK 1) x.en = .ok (x.kids.getD 1 dN)) := hide (by rw [kz]; exact hkr)
        rw [hkr] at HHAS
        obtain ⟨bA, oA, rfl, _⟩ := HNO.out.at_.addr (by omega)
        have hd := HNO.out.hd 1 (by omega)
        have hat := HNO.out.at_
        have hda := hd.data
        rw [data_boxOf (by rw [kz, kk]; rfl)] at hda
        obtain ⟨yz, hyz⟩ : ∃ yz, ks.getD 1 default = yz := ⟨_, rfl⟩
        rw [hyz] at hd hda
        have c2 : wr.cell? ⟨bA, oA + 10, none⟩ = some (.slice yz.box.dA yz.box.dn yz.box.dc) := by simpa using hat.cellK (k := 1) (by omega) default 2 _ (by rw [hyz]; rfl)
        have c4 : wr.cell? ⟨bA, oA + 12, none⟩ = some (.int .i64 (z.beg : Int)) := by have := hat.cellK (k := 1) (by omega) default 4 _ (by rw [hyz]; rfl); rw [hd.beg, kz] at this; simpa using this
        have hynn : 1 < nn := by omega
        obtain ⟨C, hC⟩ : ∃ C, ctB b (x.kids.getD 1 dN) = C := ⟨_, rfl⟩
        rw [hC] at hda
        have HC := hide hC
        have HDA := hide hda
        have HKZ := hide kz
        have HYZ := hide hyz
        have HKK := hide kk
        have hlc := hda.len
        have hlm := hda.bound
        have HBA : Hid (bA < rb) := hide (HNO.out.low _ rfl)
        clear hkr hd hat kl hyz kz kk hda hC
        have t1 : wr.cell? ⟨tb, 1, none⟩ = some _ := HI.out.trk.cell 1
        have tf := HI.out.trk.frozen 1
        by_cases h4 : yz.box.dn = 4
        · have hda := HDA.out
          rw [h4] at c2 hda
          have HNB := hide (numberOf_any hda (by omega))
          clear hda
          have hn := numB_lt 4 C (by omega)
          have hn2 : numB C < 4294967296 := hn
          clear hn
          have hw : IntKind.i64.wrap ((numB C : Nat) : Int) = ((numB C : Nat) : Int) := by rw [IntKind.wrap_i64]; omega
          go_wp2_with (first | ((go_at_call 54; with_reducible refine HHAS.out.mono ?_); rintro e w' hh; obtain ⟨rfl, rfl⟩ := hh.1 _ rfl; clear hh) | ((go_at_call 55; with_reducible refine HNB.out.mono ?_); rintro e w' ⟨rfl, rfl⟩))
          go_roundw
          case measure => simp [intOf]
          first | (refine (?_ : ∃ (_ : Nat), _)) | ((repeat apply Exists.intro); refine ⟨?_, rfl⟩)
          refine ⟨2, bv', eA, en, ec, by omega, by go_num, hide ?_⟩
          have hC := HC.out
          subst hC
          have hT := Tw.set_ wr tb 1 (.int .i64 (numB (ctB b (x.kids.getD 1 dN)) : Int)) none
          exact HI.out.next (by omega) hrb hT (HI.out.trk.set_ 1 _) (HI.out.ed.tw hT (HI.out.ed.apartB HI.out.trk (by decide)) (by simp)) ⟨HKR.out, by show (ctB b (x.kids.getD 1 dN)).length = 4; omega⟩
        · have HE := hide (trkR_chk (k := 1) (by omega) HI.out.oks HKR.out (by show ¬ (ctB b (x.kids.getD 1 dN)).length = 4; rw [HC.out]; omega))
          rw [HKZ.out] at HE
          have HW := hide (wrong_any (a := (z.beg : Int)) HRD.out.blk)
          have hne : ((yz.box.dn : Int) ≠ 4) := by omega
          go_wp2_with (first | ((go_at_call 54; with_reducible refine HHAS.out.mono ?_); rintro e w' hh; obtain ⟨rfl, rfl⟩ := hh.1 _ rfl; clear hh) | ((go_at_call 53; with_reducible refine HW.out.mono ?_); rintro e w' ⟨rfl, p1, p2⟩; have HB1 := hide p1; have HT1 := hide p2; clear p1 p2))
          go_ret
          exact TrG.bad HE.out (KpK.chain HI.out.kp (KpK.ofTw HRD.out.blk HT1.out)) (Below.chain HI.out.low (Below.ofTw HT1.out (Nat.le_of_lt HRD.out.blk.lt) (Nat.le_refl _))) HB1.out
    case inr.inr.inl =>
      have HEX := hide (HI.out.ext (by omega)).1
      have HRD := hide (HR0.out.ext HEX.out)
      have s0 : wr.cell? ⟨sb, 2, none⟩ = some (.string ⟨kEdit.toArray⟩) := HI.out.str.cell 2
      have HHAS := hide (has_any 2 2 rfl kEdit x.en HRD.out.blk HNO.out)
      cases hkr : kidR x.kids 2 kEdit x.en with
      | bad a' =>
        have HE := hide (trkR_kid (k := 2) (by omega) HI.out.oks hkr)
        rw [hkr] at HHAS
        clear hkr
        go_wp2_with ((go_at_call 54; with_reducible refine HHAS.out.mono ?_); rintro e w' hh; obtain ⟨rfl, p1, p2⟩ := hh.2 _ rfl; have HB1 := hide p1; have HT1 := hide p2; clear p1 p2 hh)
        go_ret
        exact TrG.bad HE.out (KpK.chain HI.out.kp (KpK.ofTw HRD.out.blk HT1.out)) (Below.chain HI.out.low (Below.ofTw HT1.out (Nat.le_of_lt HRD.out.blk.lt) (Nat.le_refl _))) HB1.out
      | ok z =>
        obtain ⟨kl, kz, kk⟩ := kidR_ok hkr
        have HKR : Hid (kidR x.kids 2 (kK 2) x.en = .ok (x.kids.getD 2 dN)) := hide (by rw [kz]; exact hkr)
        rw [hkr] at HHAS
        obtain ⟨bA, oA, rfl, _⟩ := HNO.out.at_.addr (by omega)
        have hd := HNO.out.hd 2 (by omega)
        have hat := HNO.out.at_
        have hda := hd.data
        rw [data_boxOf (by rw [kz, kk]; rfl)] at hda
        obtain ⟨yz, hyz⟩ : ∃ yz, ks.getD 2 default = yz := ⟨_, rfl⟩
        rw [hyz] at hd hda
        have c2 : wr.cell? ⟨bA, oA + 18, none⟩ = some (.slice yz.box.dA yz.box.dn yz.box.dc) := by simpa using hat.cellK (k := 2) (by omega) default 2 _ (by rw [hyz]; rfl)
        have c4 : wr.cell? ⟨bA, oA + 20, none⟩ = some (.int .i64 (z.beg : Int)) := by have := hat.cellK (k := 2) (by omega) default 4 _ (by rw [hyz]; rfl); rw [hd.beg, kz] at this; simpa using this
        have hynn : 2 < nn := by omega
        obtain ⟨C, hC⟩ : ∃ C, ctB b (x.kids.getD 2 dN) = C := ⟨_, rfl⟩
        rw [hC] at hda
        have HC := hide hC
        have HDA := hide hda
        have HKZ := hide kz
        have HYZ := hide hyz
        have HKK := hide kk
        have hlc := hda.len
        have hlm := hda.bound
        have HBA : Hid (bA < rb) := hide (HNO.out.low _ rfl)
        clear hkr hd hat kl hyz kz kk hda hC
        have hC6 : C.length ≤ 1000000 := by rw [← HC.out]; exact Nat.le_trans (ctB_le b _) HBL.out
        have HC6 := hide hC6
        clear hC6
        have HDW : Hid (At w 1 e8 yz.box.dA yz.box.dn yz.box.dc C) := hide (by
          have h1 := (HK0.out.hd 2 (by omega)).data
          rw [data_boxOf (by rw [HKZ.out, HKK.out]; rfl), HC.out, HYZ.out] at h1
          exact h1)
        subst hwl
        by_cases h16 : yz.box.dn % 16 = 0
        · have hrem : Int.tmod (yz.box.dn : Int) 16 = 0 := by rw [Int.tmod_eq_emod_of_nonneg (by omega)]; omega
          have Q0 : Hid (EdQ w wl wl tb (nmK b x 2) (scK b x 2) C 0 yz.box.dA yz.box.dn yz.box.dc eA en ec) := hide ⟨by simpa using HDW.out, HI.out.trk, HI.out.ed, HEX.out, fun _ _ _ _ _ h => h⟩
          obtain ⟨DN, hDN⟩ : ∃ DN, yz.box.dn = DN := ⟨_, rfl⟩
          rw [hDN] at hlc hlm c2 hrem h16 Q0
          have H16 := hide h16
          have HLO := hide HI.out.lo2
          go_wp2_with ((go_at_call 54; with_reducible refine HHAS.out.mono ?_); rintro e w' hh; obtain ⟨rfl, rfl⟩ := hh.1 _ rfl; clear hh)
          go_loopw [8] (fun r8 wx => ∃ (q : Nat) (ca : Option Addr) (n cc : Nat) (eA' : Option Addr) (en' ec' : Nat), r8 = .slice ca n cc ∧ n = DN - 16 * q ∧ 16 * q ≤ DN ∧ Hid (EdQ w wl wx tb (nmK b x 2) (scK b x 2) C q ca n cc eA' en' ec')) (fun r8 _ => lenR r8)
          case atStart => exact ⟨0, _, _, _, _, _, _, rfl, by omega, by omega, Q0⟩
          case round =>
            clear Q0
            obtain ⟨q, ca, n, cc, eA', en', ec', rfl, hn, hq, HQ⟩ := hrel
            by_cases hn0 : 0 < n
            · have hn16 : 16 ≤ n := by omega
              have hat := HQ.out.dat.ext HQ.out.ext
              have hcc := hat.le
              obtain ⟨cb, co, rfl, _⟩ := hat.addr hn0
              have j8 : (8 : Int) ≤ (cc : Int) := by omega
              have j16 : (16 : Int) ≤ (cc : Int) := by omega
              have jn : (16 : Int) ≤ (n : Int) := by omega
              have jc : ¬ cc = 8 := by omega
              have HAT := hide hat
              have HN1 := hide (fun (W : World) (hW : Ext wr W) => numberOf_any ((HAT.out.ext hW).upto (k := 8) (by omega)) (by omega))
              have HN2 := hide (fun (W : World) (hW : Ext wr W) => numberOf_any (show At W 1 e8 (some ⟨cb, co + 8, none⟩) 8 (cc - 8) _ from (((HAT.out.ext hW).cutAt (k := 8) (by omega) (by omega)).upto (k := 8) (by omega))) (by omega))
              have HED : Hid (edK C (q + 1) = edK C q ++ [(sgn8 ((C.drop (16 * q)).take 8), sgn8 (((C.drop (16 * q)).drop 8).take 8))]) := hide (edK_at C q)
              have HDR := hide (show At w 1 e8 _ (n - 16) (cc - 16) (C.drop (16 * (q + 1))) by have := HQ.out.dat.cut (k := 16) (by omega); rw [List.drop_drop] at this; rw [show 16 * (q + 1) = 16 * q + 16 by omega]; exact this)
              have w1 : IntKind.i64.wrap ((numB ((C.drop (16 * q)).take 8) : Nat) : Int) = sgn8 ((C.drop (16 * q)).take 8) := rfl
              have w2 : IntKind.i64.wrap ((numB (((C.drop (16 * q)).drop 8).take 8) : Nat) : Int) = sgn8 (((C.drop (16 * q)).drop 8).take 8) := rfl
              generalize sgn8 ((C.drop (16 * q)).take 8) = p1 at *
              generalize sgn8 (((C.drop (16 * q)).drop 8).take 8) = p2 at *
              generalize numB ((C.drop (16 * q)).take 8) = u1 at *
              generalize numB (((C.drop (16 * q)).drop 8).take 8) = u2 at *
              have hen : (edK C q).length = en' := HQ.out.ed.len len_e2
              have hen2 : (edK C q).length = q := edK_len C q
              have t3 : wr.cell? ⟨tb, 3, none⟩ = some (.slice eA' en' ec') := HQ.out.trk.cell 3
              have tf := HQ.out.trk.frozen 3
              have i1 : (n : Int) > 0 := by omega
              clear hat
              have hlk2 : (edK C q).length ≤ 1000000 := by have := HC6.out; omega
              have hnot : (Value.slice eA' en' ec').ownBlock ≠ some tb := HQ.out.ed.apartB HQ.out.trk (by decide)
              have HNOT := hide hnot
              have HT3 := hide HQ.out.trk
              have S1 : Hid ((edK C q).length + 1 ≤ maxLen) := hide (by unfold maxLen; omega)
              have S2 : Hid (((edK C q).length + 1) * 16 ≤ 140737488355328) := hide (by omega)
              have S3 : Hid (w.heap.size ≤ (wr.drew.alloc (.cells #[.int .i64 p1, .int .i64 p2] 112)).heap.size) := hide (by have := HQ.out.ext.size; rw [World.size_alloc]; show w.heap.size ≤ wr.heap.size + 1; omega)
              clear hlk2 hnot
              go_upto_region 24 with (fail)
              refine region_z (S := fun w' => w'.cell? ⟨tb, 3, none⟩ = some (.slice eA' en' ec')) 13 (by kernel_rfl) ?_
              refine AnyZ.takeE (i := 0) (d := 104) (oi := _) (v := ?_) rfl rfl rfl (by kernel_rfl) (by kernel_rfl) (by kernel_rfl) (by kernel_rfl) (by kernel_rfl) (by kernel_rfl) (fun _ _ _ h => h) (Or.inl ⟨by rfl, ?_⟩) ((Ext.drew _).cell t3) ?_
              rotate_left
              · intro W hW; obtain s1 := hW; first | (go_simp; done) | (go_simp; with_reducible rfl)
              try simp only [Act.put, setIfInBounds_toArray, set_cons_zero, set_cons_succ]
              refine AnyZ.takeE (i := 1) (d := 105) (oi := _) (v := ?_) rfl rfl rfl (by kernel_rfl) (by kernel_rfl) (by kernel_rfl) (by kernel_rfl) (by kernel_rfl) (by kernel_rfl) (fun _ _ _ h => h) (Or.inl ⟨by rfl, ?_⟩) ((Ext.drew _).cell t3) ?_
              rotate_left
              · intro W hW; obtain s1 := hW; first | (go_simp; done) | (go_simp; with_reducible rfl)
              try simp only [Act.put, setIfInBounds_toArray, set_cons_zero, set_cons_succ]
              refine AnyZ.takeE (i := 2) (d := 106) (oi := _) (v := ?_) rfl rfl rfl (by kernel_rfl) (by kernel_rfl) (by kernel_rfl) (by kernel_rfl) (by kernel_rfl) (by kernel_rfl) (fun _ _ _ h => h) (Or.inl ⟨by rfl, ?_⟩) ((Ext.drew _).cell t3) ?_
              rotate_left
              · intro W hW; obtain s1 := hW; first | (go_simp; done) | (go_simp; with_reducible rfl)
              try simp only [Act.put, setIfInBounds_toArray, set_cons_zero, set_cons_succ]
              refine AnyZ.takeE (i := 3) (d := 107) (oi := _) (v := ?_) rfl rfl rfl (by kernel_rfl) (by kernel_rfl) (by kernel_rfl) (by kernel_rfl) (by kernel_rfl) (by kernel_rfl) (fun _ _ _ h => h) (Or.inl ⟨by rfl, ?_⟩) ((Ext.drew _).cell t3) ?_
              rotate_left
              · intro W hW; obtain s1 := hW; first | (go_simp; done) | (go_simp; with_reducible rfl)
              try simp only [Act.put, setIfInBounds_toArray, set_cons_zero, set_cons_succ]
              refine AnyZ.takeE (i := 6) (d := 110) (oi := _) (v := ?_) rfl rfl rfl (by kernel_rfl) (by kernel_rfl) (by kernel_rfl) (by kernel_rfl) (by kernel_rfl) (by kernel_rfl) (fun _ _ _ h => h) (Or.inl ⟨by rfl, ?_⟩) ((Ext.drew _).cell t3) ?_
              rotate_left
              · intro W hW; obtain s1 := hW; first | (go_simp; done) | (go_simp; with_reducible rfl)
              try simp only [Act.put, setIfInBounds_toArray, set_cons_zero, set_cons_succ]
              refine AnyZ.takeE (i := 7) (d := 111) (oi := _) (v := ?_) rfl rfl rfl (by kernel_rfl) (by kernel_rfl) (by kernel_rfl) (by kernel_rfl) (by kernel_rfl) (by kernel_rfl) (fun _ _ _ h => h) (Or.inl ⟨by rfl, ?_⟩) ((Ext.drew _).cell t3) ?_
              rotate_left
              · intro W hW; obtain s1 := hW; first | (go_simp; done) | (go_simp; with_reducible rfl)
              try simp only [Act.put, setIfInBounds_toArray, set_cons_zero, set_cons_succ]
              refine AnyZ.step (i := 4) rfl (by kernel_rfl) (fun K hK => ?_)
              go_simp
              go_at_call 55
              with_reducible refine (HN1.out _ (Ext.drew _)).mono ?_
              rintro e w' ⟨rfl, rfl⟩
              refine hK.out _ _ (fun h => (Ext.drew _).cell t3) ?_
              clear hK K
              try simp only [Act.put, setIfInBounds_toArray, set_cons_zero, set_cons_succ]
              refine AnyZ.takeE (i := 5) (d := 109) (oi := _) (v := ?_) rfl rfl rfl (by kernel_rfl) (by kernel_rfl) (by kernel_rfl) (by kernel_rfl) (by kernel_rfl) (by kernel_rfl) (fun _ _ _ h => h) (Or.inl ⟨by rfl, ?_⟩) ((Ext.drew _).cell t3) ?_
              rotate_left
              · intro W hW; obtain s1 := hW; first | (go_simp; done) | (go_simp; with_reducible rfl)
              try simp only [Act.put, setIfInBounds_toArray, set_cons_zero, set_cons_succ]
              refine AnyZ.step (i := 8) rfl (by kernel_rfl) (fun K hK => ?_)
              go_simp
              go_at_call 55
              with_reducible refine (HN2.out _ (Ext.drew _)).mono ?_
              rintro e w' ⟨rfl, rfl⟩
              refine hK.out _ _ (fun h => (Ext.drew _).cell t3) ?_
              clear hK K
              try simp only [Act.put, setIfInBounds_toArray, set_cons_zero, set_cons_succ]
              refine AnyZ.takeE (i := 9) (d := 113) (oi := _) (v := ?_) rfl rfl rfl (by kernel_rfl) (by kernel_rfl) (by kernel_rfl) (by kernel_rfl) (by kernel_rfl) (by kernel_rfl) (fun _ _ _ h => h) (Or.inl ⟨by rfl, ?_⟩) ((Ext.drew _).cell t3) ?_
              rotate_left
              · intro W hW; obtain s1 := hW; first | (go_simp; done) | (go_simp; with_reducible rfl)
              try simp only [Act.put, setIfInBounds_toArray, set_cons_zero, set_cons_succ]
              refine AnyZ.takeE (i := 10) (d := 114) (oi := _) (v := ?_) rfl rfl rfl (by kernel_rfl) (by kernel_rfl) (by kernel_rfl) (by kernel_rfl) (by kernel_rfl) (by kernel_rfl) (fun _ _ _ h => h) (Or.inl ⟨by rfl, ?_⟩) ((Ext.drew _).cell t3) ?_
              rotate_left
              · intro W hW; obtain s1 := hW; first | (go_simp; done) | (go_simp; with_reducible rfl)
              try simp only [Act.put, setIfInBounds_toArray, set_cons_zero, set_cons_succ]
              refine AnyZ.step (i := 11) rfl (by kernel_rfl) (fun K hK => ?_)
              go_simp
              refine hK.out _ _ (fun h => (Ext.alloc _ _).cell ((Ext.drew _).cell t3)) ?_
              clear hK K
              try simp only [Act.put, setIfInBounds_toArray, set_cons_zero, set_cons_succ]
              refine AnyZ.step (i := 12) rfl (by kernel_rfl) (fun K hK => ?_)
              refine step_append_at rfl (.tmp 105) (.tmp 115) 45 rfl w.heap.size 112 i0_ _ 16 Try.underlying45 hi0 hz0 hz1 hz2 rfl (by omega) len_e2 one_e2 _ _ (by rfl) (HQ.out.ed.ext (Ext.trans (Ext.drew _) (Ext.alloc _ _))) (some ⟨wr.drew.heap.size, 0, none⟩) 1 1 [(p1, p2)] (by rfl) (At.pair1 wr.drew p1 p2 _) S1.out S2.out S3.out ?_
              intro v7 w7 o7 g7 _ _
              obtain ⟨A7, c7, hv7, _⟩ := o7.at_ len_e2
              obtain ⟨n7, hn7⟩ : ∃ n7, (edK C q ++ [(p1, p2)]).length = n7 := ⟨_, rfl⟩
              rw [hn7] at hv7
              subst hv7
              have O7 := hide o7
              have T7 := hide (show Blk w7 tb _ _ from (g7.block tb (HT3.out.ext (Ext.trans (Ext.drew _) (Ext.alloc _ _))).lt (fun e => HNOT.out e.symm)).trans (HT3.out.ext (Ext.trans (Ext.drew _) (Ext.alloc _ _))))
              have k7 : w7.cell? ⟨tb, 3, none⟩ = some (.slice eA' en' ec') := T7.out.cell 3
              have f7 := T7.out.frozen 3
              have E7 : Hid (Ext w w7) := hide (Own.below (HQ.out.ed.ext (Ext.trans (Ext.drew _) (Ext.alloc _ _))) (Ext.trans HQ.out.ext (Ext.trans (Ext.drew _) (Ext.alloc _ _))) g7 (Nat.le_refl _))
              have KP7 := hide (fun (t : TypeId) (cs : Array Value) (h1 : t ≠ 47) (h2 : t ≠ 112) (g : Nat) (hb : Blk wl g t cs) => (show Blk w7 g t cs from by
                have hb2 : Blk (wr.drew.alloc (.cells #[.int .i64 p1, .int .i64 p2] 112)) g t cs := (HQ.out.keep t cs h1 h2 g hb).ext (Ext.trans (Ext.drew _) (Ext.alloc _ _))
                exact (g7.block g hb2.lt (fun e => (HQ.out.ed.ext (Ext.trans (Ext.drew _) (Ext.alloc _ _))).apartB hb2 (Ne.symm h2) e.symm)).trans hb2))
              clear o7 g7 hn7
              refine hK.out _ _ (fun h => k7) ?_
              clear hK K
              try simp only [Act.put, setIfInBounds_toArray, set_cons_zero, set_cons_succ]
              refine AnyZ.step (i := 13) rfl (by kernel_rfl) (fun K hK => ?_)
              go_simp
              refine hK.out _ _ (fun h => ?_) ?_
              · exact absurd (h.symm.trans (show _ = true by kernel_rfl)) (by simp)
              clear hK K
              try simp only [Act.put, setIfInBounds_toArray, set_cons_zero, set_cons_succ]
              refine AnyZ.step (i := 14) rfl (by kernel_rfl) (fun K hK => ?_)
              go_simp
              refine hK.out _ _ (fun h => ?_) ?_
              · exact absurd (h.symm.trans (show _ = true by kernel_rfl)) (by simp)
              clear hK K
              try simp only [Act.put, setIfInBounds_toArray, set_cons_zero, set_cons_succ]
              refine AnyZ.done (by kernel_rfl) ?_ _
              clear k7 f7 t3 tf
              go_wp2_with fail
              go_roundw
              case measure => simp [lenR]; omega
              refine ⟨q + 1, _, _, _, _, _, _, rfl, by omega, by omega, hide ⟨?_, T7.out.set_ 3 _, ?_, tw_ext' E7.out (Tw.set_ _ _ _ _ _) HLO.out.2.1, ?_⟩⟩
              · have h := HDR.out; rw [hn] at h; exact h
              · rw [HED.out]; exact O7.out.tw (Tw.set_ w7 tb 3 _ none) (O7.out.apartB T7.out (by decide)) (by simp)
              · intro t cs h1 h2 g hb
                exact Blk.off (KP7.out t cs h1 h2 g hb) T7.out (Tw.set_ w7 tb 3 _ none) h1
            · obtain rfl : n = 0 := by omega
              have HCL := hide hlc
              have hn0' : ¬ ((0 : Int) > 0) := by omega
              clear hn0
              go_wp2_with fail
              go_roundw
              case measure => simp [intOf]
              first | (refine (?_ : ∃ (_ : Nat), _)) | ((repeat apply Exists.intro); refine ⟨?_, rfl⟩)
              refine ⟨3, bv', eA', en', ec', by omega, by go_num, hide ?_⟩
              have hC := HC.out
              subst hC
              have hqn : (ctB b (x.kids.getD 2 dN)).length / 16 = q := by have := HCL.out; omega
              refine HI.out.next2 (by omega) hrb HQ.out.ext HQ.out.keep HQ.out.trk ?_ ⟨HKR.out, by show (ctB b (x.kids.getD 2 dN)).length % 16 = 0; rw [HCL.out]; exact H16.out⟩
              show Own wr w.heap.size 112 2 e2 _ (edK (ctB b (x.kids.getD 2 dN)) ((ctB b (x.kids.getD 2 dN)).length / 16))
              rw [hqn]; exact HQ.out.ed
        · have HE := hide (trkR_chk (k := 2) (by omega) HI.out.oks HKR.out (by show ¬ (ctB b (x.kids.getD 2 dN)).length % 16 = 0; rw [HC.out]; omega))
          rw [HKZ.out] at HE
          have HW := hide (wrong_any (a := (z.beg : Int)) HRD.out.blk)
          have hrem : Int.tmod (yz.box.dn : Int) 16 = ((yz.box.dn % 16 : Nat) : Int) := by rw [Int.tmod_eq_emod_of_nonneg (by omega)]; omega
          generalize yz.box.dn % 16 = rr at *
          go_wp2_with (first | ((go_at_call 54; with_reducible refine HHAS.out.mono ?_); rintro e w' hh; obtain ⟨rfl, rfl⟩ := hh.1 _ rfl; clear hh) | ((go_at_call 53; with_reducible refine HW.out.mono ?_); rintro e w' ⟨rfl, p1, p2⟩; have HB1 := hide p1; have HT1 := hide p2; clear p1 p2))
          go_ret
          exact TrG.bad HE.out (KpK.chain HI.out.kp (KpK.ofTw HRD.out.blk HT1.out)) (Below.chain HI.out.low (Below.ofTw HT1.out (Nat.le_of_lt HRD.out.blk.lt) (Nat.le_refl _))) HB1.out
    case inr.inr.inr.inl =>
      have HEX := hide (HI.out.ext (by omega)).1
      have HRD := hide (HR0.out.ext HEX.out)
      have s0 : wr.cell? ⟨sb, 3, none⟩ = some (.string ⟨kTabl.toArray⟩) := HI.out.str.cell 3
      have HHAS := hide (has_any 3 3 rfl kTabl x.en HRD.out.blk HNO.out)
      cases hkr : kidR x.kids 3 kTabl x.en with
      | bad a' =>
        have HE := hide (trkR_kid (k := 3) (by omega) HI.out.oks hkr)
        rw [hkr] at HHAS
        clear hkr
        go_wp2_with ((go_at_call 54; with_reducible refine HHAS.out.mono ?_); rintro e w' hh; obtain ⟨rfl, p1, p2⟩ := hh.2 _ rfl; have HB1 := hide p1; have HT1 := hide p2; clear p1 p2 hh)
        go_ret
        exact TrG.bad HE.out (KpK.chain HI.out.kp (KpK.ofTw HRD.out.blk HT1.out)) (Below.chain HI.out.low (Below.ofTw HT1.out (Nat.le_of_lt HRD.out.blk.lt) (Nat.le_refl _))) HB1.out
      | ok z =>
        obtain ⟨kl, kz, kk⟩ := kidR_ok hkr
        have HKR : Hid (kidR x.kids 3 (kK 3) x.en = .ok (x.kids.getD 3 dN)) := hide (by rw [kz]; exact hkr)
        rw [hkr] at HHAS
        obtain ⟨bA, oA, rfl, _⟩ := HNO.out.at_.addr (by omega)
        have hd := HNO.out.hd 3 (by omega)
        have hat := HNO.out.at_
        have hda := hd.data
        rw [data_boxOf (by rw [kz, kk]; rfl)] at hda
        obtain ⟨yz, hyz⟩ : ∃ yz, ks.getD 3 default = yz := ⟨_, rfl⟩
        rw [hyz] at hd hda
        have c2 : wr.cell? ⟨bA, oA + 26, none⟩ = some (.slice yz.box.dA yz.box.dn yz.box.dc) := by simpa using hat.cellK (k := 3) (by omega) default 2 _ (by rw [hyz]; rfl)
        have c4 : wr.cell? ⟨bA, oA + 28, none⟩ = some (.int .i64 (z.beg : Int)) := by have := hat.cellK (k := 3) (by omega) default 4 _ (by rw [hyz]; rfl); rw [hd.beg, kz] at this; simpa using this
        have hynn : 3 < nn := by omega
        obtain ⟨C, hC⟩ : ∃ C, ctB b (x.kids.getD 3 dN) = C := ⟨_, rfl⟩
        rw [hC] at hda
        have HC := hide hC
        have HDA := hide hda
        have HKZ := hide kz
        have HYZ := hide hyz
        have HKK := hide kk
        have hlc := hda.len
        have hlm := hda.bound
        have HBA : Hid (bA < rb) := hide (HNO.out.low _ rfl)
        clear hkr hd hat kl hyz kz kk hda hC
        have HRT := hide (keyReadTab_any HDA.out)
        have HW := hide (fun (W : World) (hW : Ext wr W) => wrong_any (a := (z.beg : Int)) (HRD.out.ext hW).blk)
        have NOD := hide HI.out.nod
        by_cases hf : rtF C = 0
        · have HRF : Hid (rtF (ctB b (x.kids.getD 3 dN)) = 0) := hide (by rw [HC.out]; exact hf)
          rw [hf] at HRT
          clear hf
          go_wp2_with ((go_at_call 54; with_reducible refine HHAS.out.mono ?_); rintro e w' hh; obtain ⟨rfl, rfl⟩ := hh.1 _ rfl; clear hh)
          with_reducible refine HRT.out.mono ?_
          rintro e w1 ⟨v, rfl, tb1, e1⟩
          obtain ⟨yt, rfl, tok⟩ := tb1.cells
          have TOK1 := hide tok
          have E1 := hide e1
          clear e1 tok tb1
          go_upto_region 10 with (fail)
          refine gen_wpC fun w2 h2 => ?_
          obtain ⟨gb, hgb⟩ : ∃ gb, gb = w1.heap.size := ⟨_, rfl⟩
          rw [← hgb]
          have E2 : Hid (Ext wr w2) := hide (by rw [h2]; exact Ext.trans E1.out (Ext.alloc _ _))
          have T2 : Hid (Blk w2 gb 82 #[.int .i64 yt.start, .slice yt.sA yt.sn yt.sc, .slice yt.hA yt.hn yt.hc, .slice yt.zA yt.zn yt.zc, .slice yt.kA yt.kn yt.kc, .slice yt.cA yt.cn yt.cc, .slice yt.pA yt.pn yt.pc]) := hide (by rw [h2, hgb]; exact Blk.new _ _ _)
          have TOK : Hid (TbOk w2 (fun k => wr.heap.size ≤ k ∧ k < w2.heap.size) yt (rtV (ctB b (x.kids.getD 3 dN)))) := hide (by
            rw [HC.out]
            have e3 : Ext w1 w2 := by rw [h2]; exact Ext.alloc _ _
            exact TOK1.out.good (fun k hk => e3.block k hk.2) (fun k hk => ⟨hk.1, Nat.lt_of_lt_of_le hk.2 e3.size⟩))
          have R2 := hide (HRD.out.ext E2.out)
          have NGB : Hid (bv.ownBlock ≠ some gb) := hide (fun e => by have := (HRD.out.tab.lt gb e).2; have := E1.out.size; omega)
          have S1 : Hid (ts.length + 1 ≤ maxLen) := hide (by have := HRD.out.lenB; unfold maxLen; omega)
          have S2 : Hid ((ts.length + 1) * 152 ≤ 140737488355328) := hide (by have := HRD.out.lenB; omega)
          clear h2 hgb
          go_upto_region 12 with (fail)
          refine region_z (S := S12 rb gb bv yt) 9 (by kernel_rfl) ?_
          refine AnyZ.takeE (i := 0) (d := 53) (oi := _) (v := ?_) rfl rfl rfl (by kernel_rfl) (by kernel_rfl) (by kernel_rfl) (by kernel_rfl) (by kernel_rfl) (by kernel_rfl) (fun _ _ _ h => h) (Or.inl ⟨by rfl, ?_⟩) (S12.of (R2.out.blk.ext (Ext.drew _)) (T2.out.ext (Ext.drew _))) ?_
          rotate_left
          · intro W hW; obtain ⟨s1, s2, s3, s4, s5, s6, s7, s8⟩ := hW; first | (go_simp; done) | (go_simp; with_reducible rfl)
          try simp only [Act.put, setIfInBounds_toArray, set_cons_zero, set_cons_succ]
          refine AnyZ.takeE (i := 1) (d := 54) (oi := _) (v := ?_) rfl rfl rfl (by kernel_rfl) (by kernel_rfl) (by kernel_rfl) (by kernel_rfl) (by kernel_rfl) (by kernel_rfl) (fun _ _ _ h => h) (Or.inl ⟨by rfl, ?_⟩) (S12.of (R2.out.blk.ext (Ext.drew _)) (T2.out.ext (Ext.drew _))) ?_
          rotate_left
          · intro W hW; obtain ⟨s1, s2, s3, s4, s5, s6, s7, s8⟩ := hW; first | (go_simp; done) | (go_simp; with_reducible rfl)
          try simp only [Act.put, setIfInBounds_toArray, set_cons_zero, set_cons_succ]
          refine AnyZ.takeE (i := 2) (d := 55) (oi := _) (v := ?_) rfl rfl rfl (by kernel_rfl) (by kernel_rfl) (by kernel_rfl) (by kernel_rfl) (by kernel_rfl) (by kernel_rfl) (fun _ _ _ h => h) (Or.inl ⟨by rfl, ?_⟩) (S12.of (R2.out.blk.ext (Ext.drew _)) (T2.out.ext (Ext.drew _))) ?_
          rotate_left
          · intro W hW; obtain ⟨s1, s2, s3, s4, s5, s6, s7, s8⟩ := hW; first | (go_simp; done) | (go_simp; with_reducible rfl)
          try simp only [Act.put, setIfInBounds_toArray, set_cons_zero, set_cons_succ]
          refine AnyZ.takeE (i := 3) (d := 56) (oi := _) (v := ?_) rfl rfl rfl (by kernel_rfl) (by kernel_rfl) (by kernel_rfl) (by kernel_rfl) (by kernel_rfl) (by kernel_rfl) (fun _ _ _ h => h) (Or.inl ⟨by rfl, ?_⟩) (S12.of (R2.out.blk.ext (Ext.drew _)) (T2.out.ext (Ext.drew _))) ?_
          rotate_left
          · intro W hW; obtain ⟨s1, s2, s3, s4, s5, s6, s7, s8⟩ := hW; first | (go_simp; done) | (go_simp; with_reducible rfl)
          try simp only [Act.put, setIfInBounds_toArray, set_cons_zero, set_cons_succ]
          refine AnyZ.takeE (i := 4) (d := 57) (oi := _) (v := ?_) rfl rfl rfl (by kernel_rfl) (by kernel_rfl) (by kernel_rfl) (by kernel_rfl) (by kernel_rfl) (by kernel_rfl) (fun _ _ _ h => h) (Or.inl ⟨by rfl, ?_⟩) (S12.of (R2.out.blk.ext (Ext.drew _)) (T2.out.ext (Ext.drew _))) ?_
          rotate_left
          · intro W hW; obtain ⟨s1, s2, s3, s4, s5, s6, s7, s8⟩ := hW; first | (go_simp; done) | (go_simp; with_reducible rfl)
          try simp only [Act.put, setIfInBounds_toArray, set_cons_zero, set_cons_succ]
          refine AnyZ.takeE (i := 5) (d := 58) (oi := _) (v := ?_) rfl rfl rfl (by kernel_rfl) (by kernel_rfl) (by kernel_rfl) (by kernel_rfl) (by kernel_rfl) (by kernel_rfl) (fun _ _ _ h => h) (Or.inl ⟨by rfl, ?_⟩) (S12.of (R2.out.blk.ext (Ext.drew _)) (T2.out.ext (Ext.drew _))) ?_
          rotate_left
          · intro W hW; obtain ⟨s1, s2, s3, s4, s5, s6, s7, s8⟩ := hW; first | (go_simp; done) | (go_simp; with_reducible rfl)
          try simp only [Act.put, setIfInBounds_toArray, set_cons_zero, set_cons_succ]
          refine AnyZ.step (i := 6) rfl (by kernel_rfl) (fun K hK => ?_)
          go_simp
          refine gen_hkT hK fun w3 hw3 => ?_
          have E3 : Hid (Ext w2 w3) := hide (by rw [hw3]; exact Ext.trans (Ext.drew _) (Ext.alloc _ _))
          have A3 : Hid (At w3 7 eTb (some ⟨w2.drew.heap.size, 0, none⟩) 1 1 [yt]) := hide (by rw [hw3]; exact At.newE (enc := eTb) w2.drew yt _ _ rfl)
          refine ⟨fun h => S12.of (R2.out.blk.ext E3.out) (T2.out.ext E3.out), ?_⟩
          clear hK K hw3
          try simp only [Act.put, setIfInBounds_toArray, set_cons_zero, set_cons_succ]
          refine AnyZ.step (i := 7) rfl (by kernel_rfl) (fun K hK => ?_)
          have S3 : Hid (rb + 1 ≤ w3.heap.size) := hide (by have := R2.out.blk.lt; have := E3.out.size; omega)
          refine step_append_at rfl _ _ 73 rfl (rb + 1) 82 j0_ _ 152 Try.underlying73 hj0 hy0 hy1 hy2 rfl (by omega) len_eTb one_eTb bv ts (by rfl) (R2.out.tab.ext E3.out) (some ⟨w2.drew.heap.size, 0, none⟩) 1 1 [yt] (by rfl) A3.out S1.out S2.out S3.out ?_
          intro v7 w7 o7 g7 _ r7
          obtain ⟨A7, c7, hv7, _⟩ := o7.at_ len_eTb
          obtain ⟨n7, hn7⟩ : ∃ n7, (ts ++ [yt]).length = n7 := ⟨_, rfl⟩
          rw [hn7] at hv7
          subst hv7
          have O7 := hide o7
          have G7 := hide g7
          have RR7 := hide r7
          have hRB := R2.out.blk.ext E3.out
          have HAP := R2.out.tab.ext E3.out
          have B7 : Hid (Blk w7 rb 75 (frC sc tv bv a)) := hide ((g7.block rb hRB.lt (fun e => HAP.apartB hRB (by decide) e.symm)).trans hRB)
          have T7 : Hid (Blk w7 gb 82 _) := hide ((g7.block gb (T2.out.ext E3.out).lt (fun e => NGB.out e.symm)).trans (T2.out.ext E3.out))
          have k7 : w7.cell? ⟨rb, 2, none⟩ = some bv := B7.out.cell 2
          have f7 := B7.out.frozen 2
          clear o7 g7 r7 hn7 hRB HAP
          refine hK.out _ _ (fun h => S12.of B7.out T7.out) ?_
          clear hK K
          try simp only [Act.put, setIfInBounds_toArray, set_cons_zero, set_cons_succ]
          refine AnyZ.step (i := 8) rfl (by kernel_rfl) (fun K hK => ?_)
          go_simp
          refine hK.out _ _ (fun h => ?_) ?_
          · exact S12.of B7.out T7.out
          clear hK K
          try simp only [Act.put, setIfInBounds_toArray, set_cons_zero, set_cons_succ]
          refine AnyZ.step (i := 9) rfl (by kernel_rfl) (fun K hK => ?_)
          go_simp
          refine hK.out _ _ (fun h => ?_) ?_
          · exact absurd (h.symm.trans (show _ = true by kernel_rfl)) (by simp)
          clear hK K
          try simp only [Act.put, setIfInBounds_toArray, set_cons_zero, set_cons_succ]
          refine AnyZ.step (i := 10) rfl (by kernel_rfl) (fun K hK => ?_)
          go_simp
          refine hK.out _ _ (fun h => ?_) ?_
          · exact absurd (h.symm.trans (show _ = true by kernel_rfl)) (by simp)
          clear hK K
          try simp only [Act.put, setIfInBounds_toArray, set_cons_zero, set_cons_succ]
          refine AnyZ.done (by kernel_rfl) ?_ _
          clear k7 f7
          go_wp2_with fail
          go_roundw
          case measure => simp [intOf]
          first | (refine (?_ : ∃ (_ : Nat), _)) | ((repeat apply Exists.intro); refine ⟨?_, rfl⟩)
          refine ⟨4, .slice A7 n7 c7, eA, en, ec, by omega, by go_num, hide ?_⟩
          have hC := HC.out
          subst hC
          have hT8 := Tw.set_ w7 rb 2 (.slice A7 n7 c7) none
          have hB8 := B7.out.set_ 2 (.slice A7 n7 c7)
          have hkp : ∀ t cs, t ≠ 82 → t ≠ 75 → ∀ g, Blk wr g t cs → Blk (w7.setCell ⟨rb, 2, none⟩ (.slice A7 n7 c7)) g t cs := fun t cs h1 h2 g hb => by
            have hb2 : Blk w3 g t cs := hb.ext (Ext.trans E2.out E3.out)
            have hb3 : Blk w7 g t cs := (G7.out.block g hb2.lt (fun e => (R2.out.tab.ext E3.out).apartB hb2 (Ne.symm h1) e.symm)).trans hb2
            exact Blk.off hb3 B7.out hT8 h2
          have hED : Own (w7.setCell ⟨rb, 2, none⟩ (.slice A7 n7 c7)) w.heap.size 112 2 e2 (.slice eA en ec) (edKK b x 3) := by
            have h1 := HI.out.ed.ext (Ext.trans E2.out E3.out)
            have h2 := R2.out.tab.ext E3.out
            have h3 := h1.kept G7.out (by
              cases hv : (Value.slice eA en ec).ownBlock with
              | none => exact .inl rfl
              | some g => exact .inr (fun e => h1.apart h2 (by decide) g hv e.symm))
            exact h3.tw hT8 (h3.apartB B7.out (by decide)) (by simp)
          refine ⟨hkp _ _ (by decide) (by decide) _ HI.out.nod, hkp _ _ (by decide) (by decide) _ HI.out.trk, hkp _ _ (by decide) (by decide) _ HI.out.str, hED, KpK.chain HI.out.kp (fun t cs h1 _ h3 g hb => hkp t cs h3 h1 g hb), ?_, fun h => by omega, fun _ => ⟨yt, ?_⟩, fun j hj => ?_, HI.out.lo2⟩
          · refine Below.chain HI.out.low (Below.chain (Below.ofExt (Ext.trans E2.out E3.out) (Nat.le_of_lt HRD.out.blk.lt)) (Below.chain ((Below.refl rb w3).grown G7.out (by have := S3.out; omega) (fun g e => by have := (R2.out.tab.lt g e).1; omega)) (Below.ofTw hT8 (Nat.le_of_lt B7.out.lt) (Nat.le_refl _))))
          · exact R2.out.table E3.out TOK.out (fun k hk => ⟨by have := hk.1; have := HRD.out.blk.lt; omega, hk.2, fun e => by have := (HRD.out.trk.lt k e).2; have := hk.1; omega, fun e => by have := (HRD.out.tab.lt k e).2; have := hk.1; omega⟩) O7.out G7.out RR7.out hT8 hB8
          · rcases Nat.lt_succ_iff_lt_or_eq.1 hj with h1 | h1
            · exact HI.out.oks j h1
            · rw [h1]; exact ⟨HKR.out, HRF.out⟩
        · have HE := hide (trkR_chk (k := 3) (by omega) HI.out.oks HKR.out (by show ¬ rtF (ctB b (x.kids.getD 3 dN)) = 0; rw [HC.out]; exact hf))
          rw [HKZ.out] at HE
          have hf2 : (rtF C != 0) = true := by simpa using hf
          go_wp2_with ((go_at_call 54; with_reducible refine HHAS.out.mono ?_); rintro e w' hh; obtain ⟨rfl, rfl⟩ := hh.1 _ rfl; clear hh)
          with_reducible refine HRT.out.mono ?_
          rintro e w1 ⟨v, rfl, tb1, e1⟩
          obtain ⟨yt, rfl, tok⟩ := tb1.cells
          have E1 := hide e1
          clear e1 tok tb1
          go_upto_region 10 with (fail)
          refine gen_wpC fun w2 h2 => ?_
          have E2 : Hid (Ext wr w2) := hide (by rw [h2]; exact Ext.trans E1.out (Ext.alloc _ _))
          have m7 := E2.out.cell n7
          have m4 := E2.out.cell c4
          have HW2 := hide (HW.out w2 E2.out)
          clear h2
          go_wp2_with ((go_at_call 53; with_reducible refine HW2.out.mono ?_); rintro e w' ⟨rfl, p1, p2⟩; have HB1 := hide p1; have HT1 := hide p2; clear p1 p2)
          go_ret
          exact TrG.bad HE.out (KpK.chain HI.out.kp (KpK.chain (KpK.ofExt E2.out) (KpK.ofTw (HRD.out.ext E2.out).blk HT1.out))) (Below.chain HI.out.low (Below.chain (Below.ofExt E2.out (Nat.le_of_lt HRD.out.blk.lt)) (Below.ofTw HT1.out (Nat.le_of_lt (HRD.out.ext E2.out).blk.lt) (Nat.le_refl _)))) HB1.out
    case inr.inr.inr.inr =>
      subst hwl
      have HRB := hide hrb
      obtain ⟨z, hz⟩ := HI.out.rd (by omega)
      have RD := hide hz
      have HOKS := hide HI.out.oks
      clear hz
      by_cases h5 : 4 < nn
      · have HE := hide (trkR_five HI.out.oks (by omega))
        have HW := hide (wrong_any (a := ((x.kids.getD 4 dN).beg : Int)) RD.out.blk)
        obtain ⟨bA, oA, rfl, _⟩ := HNO.out.at_.addr (by omega)
        have c4 : wl.cell? ⟨bA, oA + 36, none⟩ = some (.int .i64 ((x.kids.getD 4 dN).beg : Int)) := by have := HNO.out.at_.cellK (k := 4) (by omega) default 4 _ rfl; rw [(HNO.out.hd 4 (by omega)).beg] at this; simpa only [Nat.add_assoc] using this
        generalize (x.kids.getD 4 dN).beg = bg at *
        have i5 : (4 : Int) < (nn : Int) := by omega
        go_wp2_with ((go_at_call 53; with_reducible refine HW.out.mono ?_); rintro e w' ⟨rfl, p1, p2⟩; have HB1 := hide p1; have HT1 := hide p2; clear p1 p2)
        go_ret
        exact TrG.bad HE.out (KpK.chain HI.out.kp (KpK.ofTw RD.out.blk HT1.out)) (Below.chain HI.out.low (Below.ofTw HT1.out (Nat.le_of_lt RD.out.blk.lt) (Nat.le_refl _))) HB1.out
      · have HE := hide (trkR_ok HI.out.oks (by omega))
        have i5 : ¬ (4 : Int) < (nn : Int) := by omega
        have S1 : Hid (hs.length + 1 ≤ maxLen) := hide (by have := HR0.out.len; unfold maxLen; omega)
        have S2 : Hid ((hs.length + 1) * 72 ≤ 140737488355328) := hide (by have := HR0.out.len; omega)
        go_upto_region 28 with (fail)
        refine region_z (S := S28 rb tb tv (nmK b x 4) (scK b x 4) eA en ec) 11 (by kernel_rfl) ?_
        refine AnyZ.takeE (i := 0) (d := 130) (oi := _) (v := ?_) rfl rfl rfl (by kernel_rfl) (by kernel_rfl) (by kernel_rfl) (by kernel_rfl) (by kernel_rfl) (by kernel_rfl) (fun _ _ _ h => h) (Or.inl ⟨by rfl, ?_⟩) (S28.of (RD.out.blk.ext (Ext.drew _)) (HI.out.trk.ext (Ext.drew _))) ?_
        rotate_left
        · intro W hW; obtain ⟨s1, s2, s3, s4, s5⟩ := hW; first | (go_simp; done) | (go_simp; with_reducible rfl)
        try simp only [Act.put, setIfInBounds_toArray, set_cons_zero, set_cons_succ]
        refine AnyZ.takeE (i := 1) (d := 131) (oi := _) (v := ?_) rfl rfl rfl (by kernel_rfl) (by kernel_rfl) (by kernel_rfl) (by kernel_rfl) (by kernel_rfl) (by kernel_rfl) (fun _ _ _ h => h) (Or.inl ⟨by rfl, ?_⟩) (S28.of (RD.out.blk.ext (Ext.drew _)) (HI.out.trk.ext (Ext.drew _))) ?_
        rotate_left
        · intro W hW; obtain ⟨s1, s2, s3, s4, s5⟩ := hW; first | (go_simp; done) | (go_simp; with_reducible rfl)
        try simp only [Act.put, setIfInBounds_toArray, set_cons_zero, set_cons_succ]
        refine AnyZ.takeE (i := 2) (d := 132) (oi := _) (v := ?_) rfl rfl rfl (by kernel_rfl) (by kernel_rfl) (by kernel_rfl) (by kernel_rfl) (by kernel_rfl) (by kernel_rfl) (fun _ _ _ h => h) (Or.inl ⟨by rfl, ?_⟩) (S28.of (RD.out.blk.ext (Ext.drew _)) (HI.out.trk.ext (Ext.drew _))) ?_
        rotate_left
        · intro W hW; obtain ⟨s1, s2, s3, s4, s5⟩ := hW; first | (go_simp; done) | (go_simp; with_reducible rfl)
        try simp only [Act.put, setIfInBounds_toArray, set_cons_zero, set_cons_succ]
        refine AnyZ.takeE (i := 3) (d := 133) (oi := _) (v := ?_) rfl rfl rfl (by kernel_rfl) (by kernel_rfl) (by kernel_rfl) (by kernel_rfl) (by kernel_rfl) (by kernel_rfl) (fun _ _ _ h => h) (Or.inl ⟨by rfl, ?_⟩) (S28.of (RD.out.blk.ext (Ext.drew _)) (HI.out.trk.ext (Ext.drew _))) ?_
        rotate_left
        · intro W hW; obtain ⟨s1, s2, s3, s4, s5⟩ := hW; first | (go_simp; done) | (go_simp; with_reducible rfl)
        try simp only [Act.put, setIfInBounds_toArray, set_cons_zero, set_cons_succ]
        refine AnyZ.takeE (i := 4) (d := 134) (oi := _) (v := ?_) rfl rfl rfl (by kernel_rfl) (by kernel_rfl) (by kernel_rfl) (by kernel_rfl) (by kernel_rfl) (by kernel_rfl) (fun _ _ _ h => h) (Or.inl ⟨by rfl, ?_⟩) (S28.of (RD.out.blk.ext (Ext.drew _)) (HI.out.trk.ext (Ext.drew _))) ?_
        rotate_left
        · intro W hW; obtain ⟨s1, s2, s3, s4, s5⟩ := hW; first | (go_simp; done) | (go_simp; with_reducible rfl)
        try simp only [Act.put, setIfInBounds_toArray, set_cons_zero, set_cons_succ]
        refine AnyZ.takeE (i := 5) (d := 135) (oi := _) (v := ?_) rfl rfl rfl (by kernel_rfl) (by kernel_rfl) (by kernel_rfl) (by kernel_rfl) (by kernel_rfl) (by kernel_rfl) (fun _ _ _ h => h) (Or.inl ⟨by rfl, ?_⟩) (S28.of (RD.out.blk.ext (Ext.drew _)) (HI.out.trk.ext (Ext.drew _))) ?_
        rotate_left
        · intro W hW; obtain ⟨s1, s2, s3, s4, s5⟩ := hW; first | (go_simp; done) | (go_simp; with_reducible rfl)
        try simp only [Act.put, setIfInBounds_toArray, set_cons_zero, set_cons_succ]
        refine AnyZ.takeE (i := 6) (d := 136) (oi := _) (v := ?_) rfl rfl rfl (by kernel_rfl) (by kernel_rfl) (by kernel_rfl) (by kernel_rfl) (by kernel_rfl) (by kernel_rfl) (fun _ _ _ h => h) (Or.inl ⟨by rfl, ?_⟩) (S28.of (RD.out.blk.ext (Ext.drew _)) (HI.out.trk.ext (Ext.drew _))) ?_
        rotate_left
        · intro W hW; obtain ⟨s1, s2, s3, s4, s5⟩ := hW; first | (go_simp; done) | (go_simp; with_reducible rfl)
        try simp only [Act.put, setIfInBounds_toArray, set_cons_zero, set_cons_succ]
        refine AnyZ.step (i := 7) rfl (by kernel_rfl) (fun K hK => ?_)
        go_simp
        refine gen_hkT hK fun w3 hw3 => ?_
        have E3 : Hid (Ext wl w3) := hide (by rw [hw3]; exact Ext.trans (Ext.drew _) (Ext.alloc _ _))
        have A3 : Hid (At w3 4 eTk (some ⟨wl.drew.heap.size, 0, none⟩) 1 1 [(⟨nmK b x 4, scK b x 4, none, 0, 0, eA, en, ec⟩ : TrkH)]) := hide (by rw [hw3]; exact At.newE (enc := eTk) wl.drew _ _ _ rfl)
        refine ⟨fun h => S28.of (RD.out.blk.ext E3.out) (HI.out.trk.ext E3.out), ?_⟩
        clear hK K hw3
        try simp only [Act.put, setIfInBounds_toArray, set_cons_zero, set_cons_succ]
        refine AnyZ.step (i := 8) rfl (by kernel_rfl) (fun K hK => ?_)
        have S3 : Hid (rb + 1 ≤ w3.heap.size) := hide (by have := RD.out.blk.lt; have := E3.out.size; omega)
        refine step_append_at rfl _ _ 22 rfl (rb + 1) 47 k0_ _ 72 Try.underlying22 hk0 hx0 hx1 hx2 rfl (by omega) len_eTk one_eTk tv hs (by rfl) (RD.out.trk.ext E3.out) (some ⟨wl.drew.heap.size, 0, none⟩) 1 1 _ (by rfl) A3.out S1.out S2.out S3.out ?_
        intro v7 w7 o7 g7 _ r7
        obtain ⟨A7, c7, hv7, _⟩ := o7.at_ len_eTk
        obtain ⟨n7, hn7⟩ : ∃ n7, (hs ++ [(⟨nmK b x 4, scK b x 4, none, 0, 0, eA, en, ec⟩ : TrkH)]).length = n7 := ⟨_, rfl⟩
        rw [hn7] at hv7
        subst hv7
        have O7 := hide o7
        have G7 := hide g7
        have RR7 := hide r7
        have hRB := RD.out.blk.ext E3.out
        have hTB := HI.out.trk.ext E3.out
        have HAP := RD.out.trk.ext E3.out
        have B7 : Hid (Blk w7 rb 75 (frC sc tv bv' a)) := hide ((g7.block rb hRB.lt (fun e => HAP.apartB hRB (by decide) e.symm)).trans hRB)
        have T7 : Hid (Blk w7 tb 47 _) := hide ((g7.block tb hTB.lt (fun e => by have := (HR0.out.trk.lt tb e.symm).2; have := HI.out.lo2; omega)).trans hTB)
        have k7 : w7.cell? ⟨rb, 1, none⟩ = some tv := B7.out.cell 1
        have f7 := B7.out.frozen 1
        clear o7 g7 r7 hn7 hRB HAP hTB
        refine hK.out _ _ (fun h => S28.of B7.out T7.out) ?_
        clear hK K
        try simp only [Act.put, setIfInBounds_toArray, set_cons_zero, set_cons_succ]
        refine AnyZ.step (i := 9) rfl (by kernel_rfl) (fun K hK => ?_)
        go_simp
        refine hK.out _ _ (fun h => ?_) ?_
        · exact S28.of B7.out T7.out
        clear hK K
        try simp only [Act.put, setIfInBounds_toArray, set_cons_zero, set_cons_succ]
        refine AnyZ.step (i := 10) rfl (by kernel_rfl) (fun K hK => ?_)
        go_simp
        refine hK.out _ _ (fun h => ?_) ?_
        · exact S28.of B7.out T7.out
        clear hK K
        try simp only [Act.put, setIfInBounds_toArray, set_cons_zero, set_cons_succ]
        refine AnyZ.step (i := 11) rfl (by kernel_rfl) (fun K hK => ?_)
        go_simp
        refine hK.out _ _ (fun h => ?_) ?_
        · exact absurd (h.symm.trans (show _ = true by kernel_rfl)) (by simp)
        clear hK K
        try simp only [Act.put, setIfInBounds_toArray, set_cons_zero, set_cons_succ]
        refine AnyZ.step (i := 12) rfl (by kernel_rfl) (fun K hK => ?_)
        go_simp
        refine hK.out _ _ (fun h => ?_) ?_
        · exact absurd (h.symm.trans (show _ = true by kernel_rfl)) (by simp)
        clear hK K
        try simp only [Act.put, setIfInBounds_toArray, set_cons_zero, set_cons_succ]
        refine AnyZ.done (by kernel_rfl) ?_ _
        clear k7 f7
        go_wp2_with fail
        go_ret
        have hT8 := Tw.set_ w7 rb 1 (.slice A7 n7 c7) none
        have hB8 := B7.out.set_ 1 (.slice A7 n7 c7)
        have hED := HI.out.ed
        refine ⟨KpK.chain HI.out.kp (fun t cs h1 h2 _ g hb => ?_), ?_, fun x' hx' => ⟨rfl, .slice A7 n7 c7, bv', ⟨nmK b x 4, scK b x 4, none, 0, 0, eA, en, ec⟩, z, ?_⟩, fun a' ha' => by rw [HE.out] at ha'; cases ha'⟩
        · have hb2 : Blk w3 g t cs := hb.ext E3.out
          exact Blk.off ((G7.out.block g hb2.lt (fun e => (RD.out.trk.ext E3.out).apartB hb2 (Ne.symm h2) e.symm)).trans hb2) B7.out hT8 h1
        · exact Below.chain HI.out.low (Below.chain (Below.ofExt E3.out (Nat.le_of_lt RD.out.blk.lt)) (Below.chain ((Below.refl rb w3).grown G7.out (by have := S3.out; omega) (fun g e => by have := (RD.out.trk.lt g e).1; omega)) (Below.ofTw hT8 (Nat.le_of_lt B7.out.lt) (Nat.le_refl _))))
        · rw [HE.out] at hx'
          cases hx'
          refine RD.out.track (G' := fun k => (Value.slice eA en ec).ownBlock = some k) E3.out ⟨⟨rfl, rfl, At.nil _ _ _, hED.atS len_e2⟩, (fun h0 => by exact absurd h0 (Nat.lt_irrefl 0)), fun _ a ha => by subst ha; rfl⟩ (fun k hk => ⟨by have := (hED.lt k hk).1; have := HRB.out; omega, (hED.lt k hk).2, fun e => hED.apart RD.out.trk (by decide) k hk e, fun e => hED.apart RD.out.tab (by decide) k hk e⟩) O7.out G7.out RR7.out hT8 hB8
end Go.Proofs.Ytkbmgakehlmcnaa
