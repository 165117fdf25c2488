/- Several texts in one: Walk: whole (the reference's reader of films). Conditions as stated. Printed by fwhA.py; The reference's reader of films: the outermost boxes. No condition. -/
import Derived.Test.YtlonhkjplijlcaaMrg44
import Derived.Test.YtlonhkjplijlcaaMrg28
import Derived.Test.YtlonhkjplijlcaaMrg41
namespace Go.Proofs.Ytlonhkjplijlcaa
open Go.RowKit
/-- What whole gives. -/
def FwG (w : World) (rb : Nat) (bS dv : Value) (r : Rdr (Int × List TrR)) (e : Ending) (w' : World) : Prop :=
  e = .returned (.tuple #[]) ∧ KpF w w' ∧ Below rb w w' ∧ (∀ sc l, r = .ok (sc, l) → ∃ tv bv hs ts, FiI w' rb bS sc tv bv dv (-1) hs (l.map trk0) ts (l.map TrR.tab)) ∧
    (∀ a : Nat, r = .bad a → ∃ sc tv bv, Blk w' rb 85 (fiC bS sc tv bv dv (a : Int)))
theorem FwG.bad {w w' : World} {rb : Nat} {bS dv : Value} {sc : Int} {tv bv : Value} {r : Rdr (Int × List TrR)} {a : Nat} (hr : r = .bad a) (hp : KpF w w') (hb : Below rb w w') (hk : Blk w' rb 85 (fiC bS sc tv bv dv (a : Int))) : FwG w rb bS dv r (.returned (.tuple #[])) w' :=
  ⟨rfl, hp, hb, fun _ _ hx => (by rw [hr] at hx; cases hx), fun a2 ha => by rw [hr] at ha; cases ha; exact ⟨_, _, _, hk⟩⟩
/-- What is known at the head of the loop over the kids, all being well. -/
structure FwI (w wr : World) (rb nb : Nat) (bS dv : Value) (b : List UInt8) (x : NodeT) (cs : Array Value) (k : Nat) (sc : Int) (r : List TrR) : Prop where
  nod : Blk wr nb 87 cs
  kp : KpF w wr
  low : Below rb w wr
  rd : ∃ tv bv hs ts, FiI wr rb bS sc tv bv dv (-1) hs (r.map trk0) ts (r.map TrR.tab)
  st0 : k = 0 → sc = 0 ∧ r = []
  st1 : 0 < k → filR b x = ((trksK b x.kids (x.kids.length - 1)).then fun r => .ok (sc, r)) ∧ trksK b x.kids (k - 1) = .ok r
/-- The same, something being wrong. -/
structure FwB (w wr : World) (rb nb : Nat) (bS dv : Value) (cs : Array Value) (a : Nat) : Prop where
  nod : Blk wr nb 87 cs
  kp : KpF w wr
  low : Below rb w wr
  blk : ∃ sc tv bv, Blk wr rb 85 (fiC bS sc tv bv dv (a : Int))
theorem filR_sc {b : List UInt8} {n : NodeT} (h0 : 0 < n.kids.length) (hk : (n.kids.getD 0 dN).kind = kHead) (hl : (ctB b (n.kids.getD 0 dN)).length = 4) : filR b n = (trksK b n.kids (n.kids.length - 1)).then fun r => .ok ((numB (ctB b (n.kids.getD 0 dN)) : Int), r) := filR_more (kidR_good h0 hk) hl
theorem filR_hd {b : List UInt8} {n : NodeT} (h0 : 0 < n.kids.length) (h : ¬ ((n.kids.getD 0 dN).kind = kHead ∧ (ctB b (n.kids.getD 0 dN)).length = 4)) : filR b n = .bad (n.kids.getD 0 dN).beg := by
  by_cases hk : (n.kids.getD 0 dN).kind = kHead
  · exact filR_len (kidR_good h0 hk) (fun hl => h ⟨hk, hl⟩)
  · exact filR_kid (kidR_bad h0 hk)
/-- What the region that reads the scale reads. -/
def S9 (rb kb : Nat) (bS : Value) (d e : Nat) (W : World) : Prop := W.cell? ⟨rb, 0, none⟩ = some bS ∧ W.cell? ⟨kb, 2, none⟩ = some (.int .i64 (d : Int)) ∧ W.cell? ⟨kb, 3, none⟩ = some (.int .i64 (e : Int))
set_option linter.unusedVariables false in
set_option linter.unusedSimpArgs false in
set_option maxRecDepth 100000 in
set_option maxHeartbeats 16000000 in
theorem whole_any {w : World} {rb : Nat} {bA : Option Addr} {bn bc : Nat} {dv : Value} {b : List UInt8} {y : PlH} {x : NodeT} (hR : Blk w rb 85 (fiC (.slice bA bn bc) 0 (.slice none 0 0) (.slice none 0 0) dv (-1))) (hx : PlC w rb y x) (hb : At w 1 e8 bA bn bc b) (hbL : InG (fun k => k < rb) bA) (hwf : WfN b.length 2 x.kids) (hbl : b.length ≤ 1000000) (hkl6 : x.kids.length ≤ 1000000) (hdv : ∀ g, dv.ownBlock = some g → g < w.heap.size) :
    Calls Try.prog 34 #[.pointer (some ⟨rb, 0, none⟩), .agg #[.string ⟨y.kind.toArray⟩, .int .i64 (y.beg : Int), .int .i64 (y.dat : Int), .int .i64 (y.en : Int), .slice y.kA y.kn y.kc]] w (FwG w rb (.slice bA bn bc) dv (filR b x)) := by
  have HR0 := hide hR
  obtain ⟨yk, yg, yd, ye, nA, nn, nc⟩ := y
  have hen : ye = x.en := hx.en
  have hkd : PlsAt w (fun k => k < rb) nA nn nc x.kids := hx.kids
  obtain ⟨ks, hks⟩ := pls_open hkd
  have HK0 := hide hks
  have hkl := hks.len
  have hkb := hks.at_.bound
  have hrb := hR.lt
  have HB0 := hide hb
  have HBLO := hide hbL
  have HWF := hide hwf
  have HBL := hide hbl
  have hbn := hb.len
  have hbc := hb.le
  have hbb := hb.bound
  have N0 := hide (Blk.new w 87 #[.string ⟨yk.toArray⟩, .int .i64 (yg : Int), .int .i64 (yd : Int), .int .i64 (x.en : Int), .slice nA nn nc])
  have E0 := hide (Ext.alloc w (.cells #[.string ⟨yk.toArray⟩, .int .i64 (yg : Int), .int .i64 (yd : Int), .int .i64 (x.en : Int), .slice nA nn nc] 87))
  clear hx hR hks hkd hb hbL hwf
  subst hen
  dsimp only
  go_enter Try.func34, Try.ntmps34
  go_wp2_with fail
  refine gen_wpC fun w0 h0 => ?_
  obtain ⟨nb, hnb⟩ : ∃ nb, nb = w.heap.size := ⟨_, rfl⟩
  rw [← h0] at N0 E0
  have I0 : Hid (FwI w w0 rb nb (.slice bA bn bc) dv b x #[.string ⟨yk.toArray⟩, .int .i64 (yg : Int), .int .i64 (yd : Int), .int .i64 (x.en : Int), .slice nA nn nc] 0 0 []) := hide
    ⟨by rw [hnb]; exact N0.out, KpF.ofExt E0.out, Below.ofExt E0.out (by omega), ⟨_, _, _, _, FiI.new (HR0.out.ext E0.out) (fun g hg => Nat.lt_of_lt_of_le (hdv g hg) E0.out.size)⟩, fun _ => ⟨rfl, rfl⟩, fun h => by omega⟩
  rw [← hnb]
  clear h0 hnb N0 E0
  go_loopw [4] (fun ri wr => ∃ (k : Nat), ri = .int .i64 (k : Int) ∧ k ≤ nn ∧ ((∃ (sc : Int) (r : List TrR), Hid (FwI w wr rb nb (.slice bA bn bc) dv b x #[.string ⟨yk.toArray⟩, .int .i64 (yg : Int), .int .i64 (yd : Int), .int .i64 (x.en : Int), .slice nA nn nc] k sc r)) ∨ (∃ a : Nat, Hid (FwB w wr rb nb (.slice bA bn bc) dv #[.string ⟨yk.toArray⟩, .int .i64 (yg : Int), .int .i64 (yd : Int), .int .i64 (x.en : Int), .slice nA nn nc] a ∧ filR b x = .bad a)))) (fun ri _ => nn - (intOf ri).toNat)
  case atStart => exact ⟨0, rfl, by omega, .inl ⟨0, [], I0⟩⟩
  case round =>
    clear I0
    obtain ⟨k, rfl, hk4, hst⟩ := hrel
    obtain ⟨wl, hwl⟩ : ∃ wl, wl = wr := ⟨_, rfl⟩
    subst hwl
    rcases hst with ⟨sc, r, HI⟩ | ⟨a, HB⟩
    · have HPO := hide (HK0.out.below HI.out.low)
      have n4 : wl.cell? ⟨nb, 4, none⟩ = some (.slice nA nn nc) := HI.out.nod.cell 4
      obtain ⟨tv, bv, hs, ts, hrd⟩ := HI.out.rd
      have RD := hide hrd
      have x5 : wl.cell? ⟨rb, 5, none⟩ = some (.int .i64 (-1)) := hrd.blk.cell 5
      have x0 : wl.cell? ⟨rb, 0, none⟩ = some (.slice bA bn bc) := hrd.blk.cell 0
      clear hrd
      by_cases hlt : k < nn
      · obtain ⟨oA, pA, rfl, _⟩ := HPO.out.at_.addr (by omega)
        have hd := HPO.out.hd k hlt
        have hat := HPO.out.at_
        obtain ⟨z, hz⟩ : ∃ z, x.kids.getD k dN = z := ⟨_, rfl⟩
        obtain ⟨u, hu⟩ : ∃ u, ks.getD k default = u := ⟨_, rfl⟩
        rw [hz, hu] at hd
        have hwz := HWF.out.at_ (i := k) (by omega)
        rw [show x.kids.getD k (.mk [] 0 0 0 0 []) = z from hz] at hwz
        obtain ⟨uk, ug, ud, ue, uA, un, uc⟩ := u
        have a0 : wl.cell? ⟨oA, pA + k * 5, none⟩ = some (.string ⟨uk.toArray⟩) := hat.cellK hlt default 0 _ (by rw [hu]; rfl)
        have a1 : wl.cell? ⟨oA, pA + k * 5 + 1, none⟩ = some (.int .i64 (ug : Int)) := hat.cellK hlt default 1 _ (by rw [hu]; rfl)
        have a2 : wl.cell? ⟨oA, pA + k * 5 + 2, none⟩ = some (.int .i64 (ud : Int)) := hat.cellK hlt default 2 _ (by rw [hu]; rfl)
        have a3 : wl.cell? ⟨oA, pA + k * 5 + 3, none⟩ = some (.int .i64 (ue : Int)) := hat.cellK hlt default 3 _ (by rw [hu]; rfl)
        have a4 : wl.cell? ⟨oA, pA + k * 5 + 4, none⟩ = some (.slice uA un uc) := hat.cellK hlt default 4 _ (by rw [hu]; rfl)
        have HUK : Hid (uk = z.kind) := hide hd.kind
        have HUG : Hid (ug = z.beg) := hide hd.beg
        have hud : ud = z.dat := hd.dat
        have hue : ue = z.en := hd.en
        have HZ := hide hz
        have HUD := hide hud
        have HUE := hide hue
        have hde : ud ≤ ue := by omega
        have hel : ue ≤ bn := by omega
        have HD := hide hd
        have HWZ := hide hwz.2.2
        have i1 : (k : Int) < (nn : Int) := by omega
        have i0 : (0 : Int) ≤ (k : Int) := by omega
        have i8 : IntKind.i64.wrap ((k : Int) + 1) = (k : Int) + 1 := by rw [IntKind.wrap_i64]; omega
        clear hd hat hz hu hwz hud hue
        go_upto_region 5 with (fail)
        refine gen_wpC fun w2 h2 => ?_
        obtain ⟨kb, hkb2⟩ : ∃ kb, kb = wl.heap.size := ⟨_, rfl⟩
        rw [← hkb2]
        have E2 : Hid (Ext wl w2) := hide (by rw [h2]; exact Ext.alloc _ _)
        have K2 : Hid (Blk w2 kb 87 #[.string ⟨uk.toArray⟩, .int .i64 (ug : Int), .int .i64 (ud : Int), .int .i64 (ue : Int), .slice uA un uc]) := hide (by rw [h2, hkb2]; exact Blk.new _ _ _)
        have R2 := hide (RD.out.ext E2.out)
        have N2 := hide (HI.out.nod.ext E2.out)
        have KP2 : Hid (KpF w w2) := hide (KpF.chain HI.out.kp (KpF.ofExt E2.out))
        have LO2 : Hid (Below rb w w2) := hide (Below.chain HI.out.low (Below.ofExt E2.out (Nat.le_of_lt RD.out.blk.lt)))
        clear h2 hkb2 a0 a1 a2 a3 a4 x5 x0 n4
        have k0 : w2.cell? ⟨kb, 0, none⟩ = some (.string ⟨uk.toArray⟩) := K2.out.cell 0
        have k1 : w2.cell? ⟨kb, 1, none⟩ = some (.int .i64 (ug : Int)) := K2.out.cell 1
        have k2 : w2.cell? ⟨kb, 2, none⟩ = some (.int .i64 (ud : Int)) := K2.out.cell 2
        have k3 : w2.cell? ⟨kb, 3, none⟩ = some (.int .i64 (ue : Int)) := K2.out.cell 3
        have k4 : w2.cell? ⟨kb, 4, none⟩ = some (.slice uA un uc) := K2.out.cell 4
        by_cases hk0 : 0 < k
        · have j0 : (k : Int) > 0 := by omega
          obtain ⟨hf, ht⟩ := HI.out.st1 hk0
          have HF := hide hf
          have HT := hide ht
          clear hf ht
          by_cases hkd : uk = kTrck
          · subst hkd
            have HTS := hide (trksK_trk (k := k - 1) HT.out (by omega) (by rw [show k - 1 + 1 = k by omega, HZ.out, ← HUK.out]))
            rw [show k - 1 + 1 = k by omega, HZ.out] at HTS
            have hrl := trksK_len HT.out (by omega)
            have HXG := hide (expect_good (ug : Int) R2.out.blk)
            have HTK := hide (filetrack_any R2.out (HD.out.below (Below.ofExt E2.out (Nat.le_of_lt RD.out.blk.lt))) (HB0.out.good HBLO.out LO2.out.block) HBLO.out HWZ.out (by rw [List.length_map]; omega) (by rw [List.length_map]; omega) HBL.out)
            cases htr : trkR b z with
            | bad a' =>
              have HE : Hid (filR b x = .bad a') := hide (by rw [HF.out, trksK_bad (k := k) (by rw [HTS.out, htr]; rfl) _ (by omega)]; rfl)
              rw [htr] at HTK
              clear htr
              go_wp2_with (first | ((go_at_call 33; refine HXG.out.mono ?_); rintro e w' ⟨rfl, rfl⟩) | ((go_at_call 61; refine HTK.out.mono ?_); rintro e w5 ⟨rfl, g1, g2, _, g4⟩; obtain ⟨tv5, bv5, g5⟩ := g4 _ rfl; have G1 := hide g1; have G2 := hide g2; have G5 := hide g5; clear g1 g2 g4 g5))
              go_roundw
              case measure => simp [intOf]; omega
              first | (refine (?_ : ∃ (_ : Nat), _)) | ((repeat apply Exists.intro); refine ⟨?_, rfl⟩)
              exact ⟨k + 1, by go_num, by omega, .inr ⟨a', hide ⟨⟨G1.out _ _ (by decide) (by decide) (by decide) _ N2.out, KpF.chain KP2.out G1.out, Below.chain LO2.out G2.out, _, _, _, G5.out⟩, HE.out⟩⟩⟩
            | ok t =>
              have HTS2 : Hid (trksK b x.kids k = .ok (r ++ [t])) := hide (by rw [HTS.out, htr]; rfl)
              rw [htr] at HTK
              clear htr
              go_wp2_with (first | ((go_at_call 33; refine HXG.out.mono ?_); rintro e w' ⟨rfl, rfl⟩) | ((go_at_call 61; refine HTK.out.mono ?_); rintro e w5 ⟨rfl, g1, g2, g3, _⟩; obtain ⟨tv5, bv5, y5, z5, g5⟩ := g3 _ rfl; have G1 := hide g1; have G2 := hide g2; have G5 := hide g5; clear g1 g2 g3 g5))
              go_roundw
              case measure => simp [intOf]; omega
              first | (refine (?_ : ∃ (_ : Nat), _)) | ((repeat apply Exists.intro); refine ⟨?_, rfl⟩)
              exact ⟨k + 1, by go_num, by omega, .inl ⟨sc, r ++ [t], hide ⟨G1.out _ _ (by decide) (by decide) (by decide) _ N2.out, KpF.chain KP2.out G1.out, Below.chain LO2.out G2.out, ⟨_, _, _, _, by rw [List.map_append, List.map_append]; exact G5.out⟩, fun h => by omega, fun _ => ⟨HF.out, by rw [Nat.add_sub_cancel]; exact HTS2.out⟩⟩⟩⟩
          · have HE : Hid (filR b x = .bad ug) := hide (by
              have h1 := trksK_kind (k := k - 1) HT.out (by omega) (by rw [show k - 1 + 1 = k by omega, HZ.out, ← HUK.out]; exact hkd)
              rw [show k - 1 + 1 = k by omega, HZ.out, ← HUG.out] at h1
              rw [HF.out, trksK_bad (k := k) h1 _ (by omega)]; rfl)
            have hne : (uk == [116, 114, 99, 107]) = false := by simpa using (show ¬ uk = [116, 114, 99, 107] from hkd)
            have HXB := hide (expect_bad ug R2.out.blk)
            go_wp2_with ((go_at_call 33; refine HXB.out.mono ?_); rintro e w5 ⟨rfl, p1, p2⟩; have HB1 := hide p1; have HT1 := hide p2; clear p1 p2)
            go_roundw
            case measure => simp [intOf]; omega
            first | (refine (?_ : ∃ (_ : Nat), _)) | ((repeat apply Exists.intro); refine ⟨?_, rfl⟩)
            exact ⟨k + 1, by go_num, by omega, .inr ⟨ug, hide ⟨⟨Blk.off N2.out R2.out.blk HT1.out (by decide), KpF.chain KP2.out (KpF.ofTw R2.out.blk HT1.out), Below.chain LO2.out (Below.ofTw HT1.out (Nat.le_of_lt R2.out.blk.lt) (Nat.le_refl _)), _, _, _, HB1.out⟩, HE.out⟩⟩⟩
        · obtain rfl : k = 0 := by omega
          obtain ⟨rfl, rfl⟩ := HI.out.st0 rfl
          have w9 : IntKind.i64.wrap ((ue : Int) - (ud : Int)) = (ue : Int) - (ud : Int) := by rw [IntKind.wrap_i64]; omega
          have hlz : (ctB b z).length = ue - ud := by unfold ctB cutB; rw [List.length_take, List.length_drop, ← HUD.out, ← HUE.out]; omega
          by_cases hok : uk = kHead ∧ ue - ud = 4
          · obtain ⟨hkd, h4⟩ := hok
            subst hkd
            have v9 : (ue : Int) - (ud : Int) = 4 := by omega
            have HXG := hide (expect_good (ug : Int) R2.out.blk)
            have HFS := hide (filR_sc (b := b) (n := x) (by omega) (by rw [HZ.out]; exact HUK.out.symm) (by rw [HZ.out]; omega))
            rw [HZ.out] at HFS
            obtain ⟨C, hC⟩ : ∃ C, ctB b z = C := ⟨_, rfl⟩
            rw [hC] at HFS hlz
            have hCC : (b.drop ud).take (ue - ud) = C := by rw [← hC, HUD.out, HUE.out]; rfl
            have HB2 := hide (HB0.out.good HBLO.out LO2.out.block)
            obtain ⟨bb, ob, rfl, _⟩ := HB2.out.addr (by omega)
            have j4 : (4 : Nat) ≤ ue := by omega
            have m0 : (0 : Int) ≤ (ud : Int) := by omega
            have m1 : (0 : Int) ≤ (ue : Int) := by omega
            have m2 : (ud : Int) ≤ (ue : Int) := by omega
            have m3 : (ue : Int) ≤ (bc : Int) := by omega
            have m4 : ¬ bc = ud := by omega
            have m5 : ue - ud = 4 := h4
            have HN1 := hide (fun (W : World) (hW : Ext w2 W) => number_any (l := C) (show At W 1 e8 (some ⟨bb, ob + ud, none⟩) (ue - ud) (bc - ud) C from by
              have h1 := ((HB2.out.ext hW).cutAt (k := ud) (by omega) (by omega)).upto (k := ue - ud) (by omega)
              rw [Nat.mul_one, hCC] at h1
              exact h1) (by omega))
            rw [numR_small (by omega), h4] at HN1
            clear hC hCC
            have hn0 : w2.cell? ⟨rb, 1, none⟩ = some (.int .i64 0) := R2.out.blk.cell 1
            have hnf := R2.out.blk.frozen 1
            go_upto_region 9 with ((go_at_call 33; refine HXG.out.mono ?_); rintro e w' ⟨rfl, rfl⟩)
            refine region_z (S := S9 rb kb (.slice (some ⟨bb, ob, none⟩) bn bc) ud ue) 13 (by kernel_rfl) ?_
            refine AnyZ.takeE (i := 0) (d := 52) (oi := _) (v := ?_) rfl rfl rfl (by kernel_rfl) (by kernel_rfl) (by kernel_rfl) (by kernel_rfl) (by kernel_rfl) (by kernel_rfl) (fun _ _ _ h => h) (Or.inl ⟨by rfl, ?_⟩) ⟨(R2.out.ext (Ext.drew w2)).blk.cell 0, (K2.out.ext (Ext.drew w2)).cell 2, (K2.out.ext (Ext.drew w2)).cell 3⟩ ?_
            rotate_left
            · intro W hW; obtain ⟨s1, s2, s3⟩ := hW; first | (go_simp; done) | (go_simp; with_reducible rfl)
            try simp only [Act.put, List.setIfInBounds_toArray, List.set_cons_zero, List.set_cons_succ]
            refine AnyZ.takeE (i := 1) (d := 53) (oi := _) (v := ?_) rfl rfl rfl (by kernel_rfl) (by kernel_rfl) (by kernel_rfl) (by kernel_rfl) (by kernel_rfl) (by kernel_rfl) (fun _ _ _ h => h) (Or.inl ⟨by rfl, ?_⟩) ⟨(R2.out.ext (Ext.drew w2)).blk.cell 0, (K2.out.ext (Ext.drew w2)).cell 2, (K2.out.ext (Ext.drew w2)).cell 3⟩ ?_
            rotate_left
            · intro W hW; obtain ⟨s1, s2, s3⟩ := hW; first | (go_simp; done) | (go_simp; with_reducible rfl)
            try simp only [Act.put, List.setIfInBounds_toArray, List.set_cons_zero, List.set_cons_succ]
            refine AnyZ.takeE (i := 2) (d := 54) (oi := _) (v := ?_) rfl rfl rfl (by kernel_rfl) (by kernel_rfl) (by kernel_rfl) (by kernel_rfl) (by kernel_rfl) (by kernel_rfl) (fun _ _ _ h => h) (Or.inl ⟨by rfl, ?_⟩) ⟨(R2.out.ext (Ext.drew w2)).blk.cell 0, (K2.out.ext (Ext.drew w2)).cell 2, (K2.out.ext (Ext.drew w2)).cell 3⟩ ?_
            rotate_left
            · intro W hW; obtain ⟨s1, s2, s3⟩ := hW; first | (go_simp; done) | (go_simp; with_reducible rfl)
            try simp only [Act.put, List.setIfInBounds_toArray, List.set_cons_zero, List.set_cons_succ]
            refine AnyZ.takeE (i := 3) (d := 55) (oi := _) (v := ?_) rfl rfl rfl (by kernel_rfl) (by kernel_rfl) (by kernel_rfl) (by kernel_rfl) (by kernel_rfl) (by kernel_rfl) (fun _ _ _ h => h) (Or.inl ⟨by rfl, ?_⟩) ⟨(R2.out.ext (Ext.drew w2)).blk.cell 0, (K2.out.ext (Ext.drew w2)).cell 2, (K2.out.ext (Ext.drew w2)).cell 3⟩ ?_
            rotate_left
            · intro W hW; obtain ⟨s1, s2, s3⟩ := hW; first | (go_simp; done) | (go_simp; with_reducible rfl)
            try simp only [Act.put, List.setIfInBounds_toArray, List.set_cons_zero, List.set_cons_succ]
            refine AnyZ.takeE (i := 4) (d := 56) (oi := _) (v := ?_) rfl rfl rfl (by kernel_rfl) (by kernel_rfl) (by kernel_rfl) (by kernel_rfl) (by kernel_rfl) (by kernel_rfl) (fun _ _ _ h => h) (Or.inl ⟨by rfl, ?_⟩) ⟨(R2.out.ext (Ext.drew w2)).blk.cell 0, (K2.out.ext (Ext.drew w2)).cell 2, (K2.out.ext (Ext.drew w2)).cell 3⟩ ?_
            rotate_left
            · intro W hW; obtain ⟨s1, s2, s3⟩ := hW; first | (go_simp; done) | (go_simp; with_reducible rfl)
            try simp only [Act.put, List.setIfInBounds_toArray, List.set_cons_zero, List.set_cons_succ]
            refine AnyZ.takeE (i := 5) (d := 57) (oi := _) (v := ?_) rfl rfl rfl (by kernel_rfl) (by kernel_rfl) (by kernel_rfl) (by kernel_rfl) (by kernel_rfl) (by kernel_rfl) (fun _ _ _ h => h) (Or.inl ⟨by rfl, ?_⟩) ⟨(R2.out.ext (Ext.drew w2)).blk.cell 0, (K2.out.ext (Ext.drew w2)).cell 2, (K2.out.ext (Ext.drew w2)).cell 3⟩ ?_
            rotate_left
            · intro W hW; obtain ⟨s1, s2, s3⟩ := hW; first | (go_simp; done) | (go_simp; with_reducible rfl)
            try simp only [Act.put, List.setIfInBounds_toArray, List.set_cons_zero, List.set_cons_succ]
            refine AnyZ.takeE (i := 6) (d := 58) (oi := _) (v := ?_) rfl rfl rfl (by kernel_rfl) (by kernel_rfl) (by kernel_rfl) (by kernel_rfl) (by kernel_rfl) (by kernel_rfl) (fun _ _ _ h => h) (Or.inl ⟨by rfl, ?_⟩) ⟨(R2.out.ext (Ext.drew w2)).blk.cell 0, (K2.out.ext (Ext.drew w2)).cell 2, (K2.out.ext (Ext.drew w2)).cell 3⟩ ?_
            rotate_left
            · intro W hW; obtain ⟨s1, s2, s3⟩ := hW; first | (go_simp; done) | (go_simp; with_reducible rfl)
            try simp only [Act.put, List.setIfInBounds_toArray, List.set_cons_zero, List.set_cons_succ]
            refine AnyZ.takeE (i := 7) (d := 59) (oi := _) (v := ?_) rfl rfl rfl (by kernel_rfl) (by kernel_rfl) (by kernel_rfl) (by kernel_rfl) (by kernel_rfl) (by kernel_rfl) (fun _ _ _ h => h) (Or.inl ⟨by rfl, ?_⟩) ⟨(R2.out.ext (Ext.drew w2)).blk.cell 0, (K2.out.ext (Ext.drew w2)).cell 2, (K2.out.ext (Ext.drew w2)).cell 3⟩ ?_
            rotate_left
            · intro W hW; obtain ⟨s1, s2, s3⟩ := hW; first | (go_simp; done) | (go_simp; with_reducible rfl)
            try simp only [Act.put, List.setIfInBounds_toArray, List.set_cons_zero, List.set_cons_succ]
            refine AnyZ.takeE (i := 8) (d := 60) (oi := _) (v := ?_) rfl rfl rfl (by kernel_rfl) (by kernel_rfl) (by kernel_rfl) (by kernel_rfl) (by kernel_rfl) (by kernel_rfl) (fun _ _ _ h => h) (Or.inl ⟨by rfl, ?_⟩) ⟨(R2.out.ext (Ext.drew w2)).blk.cell 0, (K2.out.ext (Ext.drew w2)).cell 2, (K2.out.ext (Ext.drew w2)).cell 3⟩ ?_
            rotate_left
            · intro W hW; obtain ⟨s1, s2, s3⟩ := hW; first | (go_simp; done) | (go_simp; with_reducible rfl)
            try simp only [Act.put, List.setIfInBounds_toArray, List.set_cons_zero, List.set_cons_succ]
            refine AnyZ.takeE (i := 9) (d := 61) (oi := _) (v := ?_) rfl rfl rfl (by kernel_rfl) (by kernel_rfl) (by kernel_rfl) (by kernel_rfl) (by kernel_rfl) (by kernel_rfl) (fun _ _ _ h => h) (Or.inl ⟨by rfl, ?_⟩) ⟨(R2.out.ext (Ext.drew w2)).blk.cell 0, (K2.out.ext (Ext.drew w2)).cell 2, (K2.out.ext (Ext.drew w2)).cell 3⟩ ?_
            rotate_left
            · intro W hW; obtain ⟨s1, s2, s3⟩ := hW; first | (go_simp; done) | (go_simp; with_reducible rfl)
            try simp only [Act.put, List.setIfInBounds_toArray, List.set_cons_zero, List.set_cons_succ]
            refine AnyZ.step (i := 10) rfl (by kernel_rfl) (fun K hK => ?_)
            go_simp
            go_at_call 62
            refine (HN1.out _ (Ext.drew _)).mono ?_
            rintro e w' ⟨rfl, rfl⟩
            refine hK.out _ _ (fun h => ⟨(R2.out.ext (Ext.drew w2)).blk.cell 0, (K2.out.ext (Ext.drew w2)).cell 2, (K2.out.ext (Ext.drew w2)).cell 3⟩) ?_
            clear hK K
            try simp only [Act.put, List.setIfInBounds_toArray, List.set_cons_zero, List.set_cons_succ]
            refine AnyZ.step (i := 11) rfl (by kernel_rfl) (fun K hK => ?_)
            go_simp
            refine hK.out _ _ (fun h => ?_) ?_
            · exact ⟨(R2.out.ext (Ext.drew w2)).blk.cell 0, (K2.out.ext (Ext.drew w2)).cell 2, (K2.out.ext (Ext.drew w2)).cell 3⟩
            clear hK K
            try simp only [Act.put, List.setIfInBounds_toArray, List.set_cons_zero, List.set_cons_succ]
            refine AnyZ.step (i := 12) rfl (by kernel_rfl) (fun K hK => ?_)
            go_simp
            refine hK.out _ _ (fun h => ?_) ?_
            · exact ⟨(R2.out.ext (Ext.drew w2)).blk.cell 0, (K2.out.ext (Ext.drew w2)).cell 2, (K2.out.ext (Ext.drew w2)).cell 3⟩
            clear hK K
            try simp only [Act.put, List.setIfInBounds_toArray, List.set_cons_zero, List.set_cons_succ]
            refine AnyZ.step (i := 13) rfl (by kernel_rfl) (fun K hK => ?_)
            go_simp
            refine hK.out _ _ (fun h => ?_) ?_
            · exact absurd (h.symm.trans (show _ = true by kernel_rfl)) (by simp)
            clear hK K
            try simp only [Act.put, List.setIfInBounds_toArray, List.set_cons_zero, List.set_cons_succ]
            refine AnyZ.step (i := 14) rfl (by kernel_rfl) (fun K hK => ?_)
            go_simp
            refine hK.out _ _ (fun h => ?_) ?_
            · exact absurd (h.symm.trans (show _ = true by kernel_rfl)) (by simp)
            clear hK K
            try simp only [Act.put, List.setIfInBounds_toArray, List.set_cons_zero, List.set_cons_succ]
            refine AnyZ.done (by kernel_rfl) ?_ _
            have hT8 := Tw.set_ w2.drew rb 1 (.int .i64 (numB C : Int)) none
            have HB8 := hide ((R2.out.ext (Ext.drew _)).blk.set_ 1 (.int .i64 (numB C : Int)))
            have HT8 := hide hT8
            have N8 := hide (Blk.off (N2.out.ext (Ext.drew _)) (R2.out.ext (Ext.drew _)).blk hT8 (by decide))
            have RX := hide (R2.out.ext (Ext.drew _))
            have KP8 := hide (KpF.chain KP2.out (KpF.chain (KpF.ofExt (Ext.drew _)) (KpF.ofTw RX.out.blk hT8)))
            have LO8 := hide (Below.chain LO2.out (Below.chain (Below.ofExt (Ext.drew _) (Nat.le_of_lt R2.out.blk.lt)) (Below.ofTw hT8 (Nat.le_of_lt RX.out.blk.lt) (Nat.le_refl _))))
            clear hT8 hn0 hnf k0 k1 k2 k3 k4
            go_wp2_with fail
            go_roundw
            case measure => simp [intOf]; omega
            first | (refine (?_ : ∃ (_ : Nat), _)) | ((repeat apply Exists.intro); refine ⟨?_, rfl⟩)
            exact ⟨1, by go_num, by omega, .inl ⟨(numB C : Int), [], hide ⟨N8.out, KP8.out, LO8.out, ⟨_, _, _, _, RX.out.tw HT8.out HB8.out⟩, fun h => by omega, fun _ => ⟨HFS.out, rfl⟩⟩⟩⟩
          · have HE : Hid (filR b x = .bad ug) := hide (by
              rw [filR_hd (by omega) (by rw [HZ.out, ← HUK.out, hlz]; exact hok), HZ.out, HUG.out])
            have HXB := hide (expect_bad ug R2.out.blk)
            by_cases hkd : uk = kHead
            · subst hkd
              have h4n : ue - ud ≠ 4 := fun h => hok ⟨rfl, h⟩
              have v9 : ¬ (ue : Int) - (ud : Int) = 4 := by omega
              have v8 : ((ue : Int) - (ud : Int) == 4) = false := by simpa using v9
              go_wp2_with ((go_at_call 33; refine HXB.out.mono ?_); rintro e w5 ⟨rfl, p1, p2⟩; have HB1 := hide p1; have HT1 := hide p2; clear p1 p2)
              go_roundw
              case measure => simp [intOf]; omega
              first | (refine (?_ : ∃ (_ : Nat), _)) | ((repeat apply Exists.intro); refine ⟨?_, rfl⟩)
              exact ⟨1, by go_num, by omega, .inr ⟨ug, hide ⟨⟨Blk.off N2.out R2.out.blk HT1.out (by decide), KpF.chain KP2.out (KpF.ofTw R2.out.blk HT1.out), Below.chain LO2.out (Below.ofTw HT1.out (Nat.le_of_lt R2.out.blk.lt) (Nat.le_refl _)), _, _, _, HB1.out⟩, HE.out⟩⟩⟩
            · have hne : (uk == [104, 101, 97, 100]) = false := by simpa using (show ¬ uk = [104, 101, 97, 100] from hkd)
              go_wp2_with ((go_at_call 33; refine HXB.out.mono ?_); rintro e w5 ⟨rfl, p1, p2⟩; have HB1 := hide p1; have HT1 := hide p2; clear p1 p2)
              go_roundw
              case measure => simp [intOf]; omega
              first | (refine (?_ : ∃ (_ : Nat), _)) | ((repeat apply Exists.intro); refine ⟨?_, rfl⟩)
              exact ⟨1, by go_num, by omega, .inr ⟨ug, hide ⟨⟨Blk.off N2.out R2.out.blk HT1.out (by decide), KpF.chain KP2.out (KpF.ofTw R2.out.blk HT1.out), Below.chain LO2.out (Below.ofTw HT1.out (Nat.le_of_lt R2.out.blk.lt) (Nat.le_refl _)), _, _, _, HB1.out⟩, HE.out⟩⟩⟩
      · obtain rfl : k = nn := by omega
        have i1 : ¬ (k : Int) < (k : Int) := by omega
        go_upto_region 10 with (fail)
        by_cases hk0 : 0 < k
        · have j0 : (k : Int) > 0 := by omega
          obtain ⟨hf, ht⟩ := HI.out.st1 hk0
          have HE : Hid (filR b x = .ok (sc, r)) := hide (by rw [hf, hkl, ht]; rfl)
          have HXG := hide (fun (W : World) (hW : Ext wl W) => expect_good (b.length : Int) (RD.out.ext hW).blk)
          rw [hbn] at HXG
          clear hf ht hlt hk4
          go_region_held3 (fun W => W.cell? ⟨nb, 4, none⟩ = some (.slice nA k nc) ∧ W.cell? ⟨rb, 0, none⟩ = some (.slice bA bn bc)) (first | go_keep) (((go_at_call 33; refine (HXG.out _ (Ext.drew _)).mono ?_); rintro e w' ⟨rfl, rfl⟩))
          go_wp2_with fail
          refine bodyPost_ret (v := .tuple #[]) (by simp [results, Try.results34, go_sem]) rfl ?_
          refine ⟨rfl, KpF.chain HI.out.kp (KpF.ofExt (Ext.drew _)), Below.chain HI.out.low (Below.ofExt (Ext.drew _) (Nat.le_of_lt RD.out.blk.lt)), fun sc' l' hx => ?_, fun a ha => by rw [HE.out] at ha; cases ha⟩
          rw [HE.out] at hx
          cases hx
          exact ⟨_, _, _, _, RD.out.ext (Ext.drew _)⟩
        · obtain rfl : k = 0 := by omega
          have HE : Hid (filR b x = .bad b.length) := hide (filR_kid (by unfold kidR; rw [List.getElem?_eq_none (by omega)]))
          have HXB := hide (fun (W : World) (hW : Ext wl W) => expect_bad b.length (RD.out.ext hW).blk)
          rw [hbn] at HXB
          go_region_held3 (fun W => W.cell? ⟨nb, 4, none⟩ = some (.slice nA 0 nc) ∧ W.cell? ⟨rb, 0, none⟩ = some (.slice bA bn bc)) (first | go_keep | exact ⟨NB3.out.cell 4, HB1.out.cell 0⟩) (((go_at_call 33; refine (HXB.out _ (Ext.drew _)).mono ?_); rintro e w5 ⟨rfl, p1, p2⟩; have HB1 := hide p1; have HT1 := hide p2; have NB3 := hide (Blk.off (HI.out.nod.ext (Ext.drew _)) (RD.out.ext (Ext.drew _)).blk p2 (by decide)); clear p1 p2))
          go_wp2_with fail
          refine bodyPost_ret (v := .tuple #[]) (by simp [results, Try.results34, go_sem]) rfl ?_
          exact FwG.bad (by rw [HE.out, hbn]) (KpF.chain HI.out.kp (KpF.chain (KpF.ofExt (Ext.drew _)) (KpF.ofTw (RD.out.ext (Ext.drew _)).blk HT1.out))) (Below.chain HI.out.low (Below.chain (Below.ofExt (Ext.drew _) (Nat.le_of_lt RD.out.blk.lt)) (Below.ofTw HT1.out (Nat.le_of_lt (RD.out.ext (Ext.drew _)).blk.lt) (Nat.le_refl _)))) HB1.out
    · have HE := hide HB.out.2
      obtain ⟨sc, tv, bv, hbk⟩ := HB.out.1.blk
      have BK := hide hbk
      have n4 : wl.cell? ⟨nb, 4, none⟩ = some (.slice nA nn nc) := HB.out.1.nod.cell 4
      have x5 : wl.cell? ⟨rb, 5, none⟩ = some (.int .i64 (a : Int)) := hbk.cell 5
      have x0 : wl.cell? ⟨rb, 0, none⟩ = some (.slice bA bn bc) := hbk.cell 0
      have ha0 : ¬ (a : Int) < 0 := by omega
      have HXO := hide (fun (W : World) (hW : Ext wl W) (ok : Bool) => expect_old ok (bn : Int) a (hbk.ext hW))
      clear hbk
      by_cases hlt : k < nn
      · have i1 : (k : Int) < (nn : Int) := by omega
        go_upto_region 10 with (fail)
        go_region_held3 (fun W => W.cell? ⟨nb, 4, none⟩ = some (.slice nA nn nc) ∧ W.cell? ⟨rb, 0, none⟩ = some (.slice bA bn bc)) (first | go_keep) (((go_at_call 33; refine (HXO.out _ (Ext.drew _) _).mono ?_); rintro e w' ⟨rfl, rfl⟩))
        go_wp2_with fail
        refine bodyPost_ret (v := .tuple #[]) (by simp [results, Try.results34, go_sem]) rfl ?_
        exact FwG.bad HE.out (KpF.chain HB.out.1.kp (KpF.ofExt (Ext.drew _))) (Below.chain HB.out.1.low (Below.ofExt (Ext.drew _) (Nat.le_of_lt BK.out.lt))) (BK.out.ext (Ext.drew _))
      · have i1 : ¬ (k : Int) < (nn : Int) := by omega
        go_upto_region 10 with (fail)
        go_region_held3 (fun W => W.cell? ⟨nb, 4, none⟩ = some (.slice nA nn nc) ∧ W.cell? ⟨rb, 0, none⟩ = some (.slice bA bn bc)) (first | go_keep) (((go_at_call 33; refine (HXO.out _ (Ext.drew _) _).mono ?_); rintro e w' ⟨rfl, rfl⟩))
        go_wp2_with fail
        refine bodyPost_ret (v := .tuple #[]) (by simp [results, Try.results34, go_sem]) rfl ?_
        exact FwG.bad HE.out (KpF.chain HB.out.1.kp (KpF.ofExt (Ext.drew _))) (Below.chain HB.out.1.low (Below.ofExt (Ext.drew _) (Nat.le_of_lt BK.out.lt))) (BK.out.ext (Ext.drew _))
end Go.Proofs.Ytlonhkjplijlcaa
namespace Go.Proofs.Ytlonhkjplijlcaa
open Go.RowKit
/-- The boxes data. -/
def datN (l : List NodeT) : List NodeT := l.filter fun x => decide (x.kind = kData)
theorem datN_snoc (l : List NodeT) (x : NodeT) : datN (l ++ [x]) = if x.kind = kData then datN l ++ [x] else datN l := by
  unfold datN
  rw [List.filter_append]
  by_cases h : x.kind = kData
  · rw [if_pos h]; simp [h]
  · rw [if_neg h]; simp [h]
theorem take_one {l : List NodeT} {k : Nat} (h : k < l.length) : l.take (k + 1) = l.take k ++ [l.getD k dN] := by
  rw [List.getD_eq_getElem?_getD, List.getElem?_eq_getElem h]
  exact List.take_succ_eq_append_getElem h
theorem okSp_data (l : List NodeT) (P Z : Nat) : okSp l ((P : Int), (Z : Int)) = baR (datN l) P Z := by
  unfold okSp baR
  have h1 : inD l ((P : Int), (Z : Int)) = (datN l).any fun x => baE x P Z := by
    unfold inD datN
    rw [List.any_filter]
    congr 1
    funext x
    unfold baE
    rw [← Bool.decide_and]
    congr 1
    apply propext
    constructor
    · rintro ⟨h1, h2, h3⟩
      exact ⟨h1, by simp only at h2; omega, by simp only at h3; omega⟩
    · rintro ⟨h1, h2, h3⟩
      exact ⟨h1, by simp only; omega, by simp only; omega⟩
  rw [h1]
  congr 1
  simp
/-- What is known at the head of the loop over the outermost boxes, all being well. -/
structure FmI (w2 wr : World) (rb : Nat) (bS : Value) (b : List UInt8) (l : List NodeT) (k : Nat) (f : Option (Int × List TrR)) (dv : Value) (ds : List PlH) : Prop where
  top : topK b l k = .ok f
  low : Below rb w2 wr
  rd : ∃ tv bv hs ts, FiI wr rb bS (scF f) tv bv dv (-1) hs ((rF f).map trk0) ts ((rF f).map TrR.tab) ∧ (f = none → tv = .slice none 0 0 ∧ bv = .slice none 0 0)
  dat : Own wr (rb + 1) 87 5 ePl dv ds
  len : ds.length = (datN (l.take k)).length
  dts : ∀ j, j < ds.length → (ds.getD j default).dat = ((datN (l.take k)).getD j dN).dat ∧ (ds.getD j default).en = ((datN (l.take k)).getD j dN).en
/-- The same, something being wrong. -/
structure FmB (w2 wr : World) (rb : Nat) (bS : Value) (a : Nat) : Prop where
  low : Below rb w2 wr
  blk : ∃ sc tv bv dv, Blk wr rb 85 (fiC bS sc tv bv dv (a : Int))
theorem FmI.data {w2 wr w' : World} {rb : Nat} {bS : Value} {b : List UInt8} {l : List NodeT} {k : Nat} {f f' : Option (Int × List TrR)} {dv : Value} {ds : List PlH} (h : FmI w2 wr rb bS b l k f dv ds) (hk : k < l.length) (hn : (l.getD k dN).kind ≠ kData) (ht : topK b l (k + 1) = .ok f') (hl : Below rb wr w') (hd : Own w' (rb + 1) 87 5 ePl dv ds)
    (hr : ∃ tv bv hs ts, FiI w' rb bS (scF f') tv bv dv (-1) hs ((rF f').map trk0) ts ((rF f').map TrR.tab) ∧ (f' = none → tv = .slice none 0 0 ∧ bv = .slice none 0 0)) : FmI w2 w' rb bS b l (k + 1) f' dv ds := by
  have e : datN (l.take (k + 1)) = datN (l.take k) := by rw [take_one hk, datN_snoc, if_neg hn]
  exact ⟨ht, Below.chain h.low hl, hr, hd, by rw [e]; exact h.len, by rw [e]; exact h.dts⟩
theorem Own.setLast5 {α : Type} {w : World} {base : Nat} {t : TypeId} {enc : α → List Value} {g n c : Nat} {bs : List α} {z y : α} {u0 u1 u2 u3 u4 : Value} (hsz : ∀ x, (enc x).length = 5) (hy : enc y = [u0, u1, u2, u3, u4])
    (h : Own w base t 5 enc (.slice (some ⟨g, 0, none⟩) (n + 1) c) (bs ++ [z])) :
    Own (((((w.setCell ⟨g, n * 5, none⟩ u0).setCell ⟨g, n * 5 + 1, none⟩ u1).setCell ⟨g, n * 5 + 2, none⟩ u2).setCell ⟨g, n * 5 + 3, none⟩ u3).setCell ⟨g, n * 5 + 4, none⟩ u4) base t 5 enc (.slice (some ⟨g, 0, none⟩) (n + 1) c) (bs ++ [y]) := by
  obtain ⟨cur, hb, h0, h1, h2, h3, h4, h5⟩ := h.last hsz
  refine Own.of_last (((((hb.set_ _ u0).set_ _ u1).set_ _ u2).set_ _ u3).set_ _ u4) h0 h1 h2 h3 (by simp [h4]) ?_ hsz
  have hf := flat_len hsz bs
  obtain ⟨z0, z1, z2, z3, z4, hz⟩ : ∃ z0 z1 z2 z3 z4, enc z = [z0, z1, z2, z3, z4] := by
    have := hsz z
    match enc z, this with
    | [a, b, c, d, e], _ => exact ⟨a, b, c, d, e, rfl⟩
  simp only [Array.toList_setIfInBounds, List.take_set, h5, hz, hy]
  have e : (bs.flatMap enc).length = n * 5 := by rw [hf, h1]
  simp [e]
abbrev W5 (w : World) (g n : Nat) (y : PlH) : World := ((((w.setCell ⟨g, n * 5, none⟩ (.string ⟨y.kind.toArray⟩)).setCell ⟨g, n * 5 + 1, none⟩ (.int .i64 (y.beg : Int))).setCell ⟨g, n * 5 + 2, none⟩ (.int .i64 (y.dat : Int))).setCell ⟨g, n * 5 + 3, none⟩ (.int .i64 (y.en : Int))).setCell ⟨g, n * 5 + 4, none⟩ (.slice y.kA y.kn y.kc)
theorem W5.tw (w : World) (g n : Nat) (y : PlH) : Tw w (W5 w g n y) g none :=
  ((((Tw.set_ _ _ _ _ _).trans (Tw.set_ _ _ _ _ _)).trans (Tw.set_ _ _ _ _ _)).trans (Tw.set_ _ _ _ _ _)).trans (Tw.set_ _ _ _ _ _)
theorem W5.size (w : World) (g n : Nat) (y : PlH) : (W5 w g n y).heap.size = w.heap.size := by simp [W5, World.setCell]
theorem FiN.tks {w : World} {rb : Nat} {bS dv : Value} {sc : Int} {tA : Option Addr} {m tc : Nat} {bv : Value} {a : Int} {hs : List TrkH} {l : List TrkT} {ts : List TbH} {tl : List Tab} {no : Option Nat} (h : FiN w rb bS sc (.slice tA m tc) bv dv a hs l ts tl no) : TksAt w tA m tc hs l := by
  obtain ⟨_, k2, _, k4, _, G, _, g2, _⟩ := h
  have hlh : hs.length = m := k2.len len_eTk
  refine ⟨k2.atS len_eTk, by omega, fun j hj => ?_⟩
  have e1 : hs[j]? = some (hs.getD j default) := by rw [List.getD_eq_getElem?_getD, List.getElem?_eq_getElem (by omega)]; rfl
  have e2 : l[j]? = some (l.getD j default) := by rw [List.getD_eq_getElem?_getD, List.getElem?_eq_getElem (by omega)]; rfl
  exact (g2 j _ _ e1 e2).ok
theorem FiN.lowTw {w w' : World} {rb o : Nat} {bS dv : Value} {sc : Int} {tv bv : Value} {a : Int} {hs : List TrkH} {l : List TrkT} {ts : List TbH} {tl : List Tab} {no : Option Nat} (h : FiN w rb bS sc tv bv dv a hs l ts tl no) (hT : Tw w w' o none) (ho : o < rb) : FiN w' rb bS sc tv bv dv a hs l ts tl no := by
  obtain ⟨h1, h2, h3, h4, h5, G, g1, g2, g3⟩ := h
  have hk : ∀ k, G k → w'.heap[k]? = w.heap[k]? := fun k hk => hT.block k (g1 k hk).2.1 (by have := (g1 k hk).1; omega) (by simp)
  exact ⟨hT.blk h1 (by omega) (by simp), h2.tw hT (fun e => by have := (h2.lt _ e).1; omega) (fun g hg e => by cases e), h3.tw hT (fun e => by have := (h3.lt _ e).1; omega) (fun g hg e => by cases e), h4, h5, G,
    fun k hk => ⟨(g1 k hk).1, Nat.lt_of_lt_of_le (g1 k hk).2.1 hT.size, (g1 k hk).2.2⟩, fun i y x hy hx => (g2 i y x hy hx).good hk (fun _ h => h), fun i y x hy hx => (g3 i y x hy hx).good hk (fun _ h => h)⟩
/-- What the two stores leave, in whichever order. -/
structure EndD (w7 X : World) (rb g : Nat) (bS : Value) (sc : Int) (tv bv : Value) (a : Int) (n c : Nat) (bs : List PlH) (y : PlH) : Prop where
  blk : Blk X rb 85 (fiC bS sc tv bv (.slice (some ⟨g, 0, none⟩) (n + 1) c) a)
  own : Own X (rb + 1) 87 5 ePl (.slice (some ⟨g, 0, none⟩) (n + 1) c) (bs ++ [y])
  oth : ∀ k, k < w7.heap.size → k ≠ rb → k ≠ g → X.heap[k]? = w7.heap[k]?
  size : w7.heap.size ≤ X.heap.size
  tape : X.os = w7.os ∧ X.tape = w7.tape ∧ X.output = w7.output
theorem endA {w7 : World} {rb g : Nat} {bS dv : Value} {sc : Int} {tv bv : Value} {a : Int} {n c : Nat} {bs : List PlH} {z : PlH} (y : PlH) (hB : Blk w7 rb 85 (fiC bS sc tv bv dv a)) (hO : Own w7 (rb + 1) 87 5 ePl (.slice (some ⟨g, 0, none⟩) (n + 1) c) (bs ++ [z])) :
    EndD w7 ((W5 w7 g n y).setCell ⟨rb, 4, none⟩ (.slice (some ⟨g, 0, none⟩) (n + 1) c)) rb g bS sc tv bv a n c bs y := by
  obtain ⟨cg, hcg⟩ := hO.blkOf
  have h5 := W5.tw w7 g n y
  have hB5 : Blk (W5 w7 g n y) rb 85 (fiC bS sc tv bv dv a) := Blk.off hB hcg h5 (by decide)
  have hO5 := hO.setLast5 (y := y) len_ePl rfl
  have hT := Tw.set_ (W5 w7 g n y) rb 4 (.slice (some ⟨g, 0, none⟩) (n + 1) c) none
  refine ⟨hB5.set_ 4 _, hO5.tw hT (hO5.apartB hB5 (by decide)) (by simp), fun k hk h1 h2 => ?_, ?_, ⟨hT.os.trans h5.os, hT.tape.trans h5.tape, hT.output.trans h5.output⟩⟩
  · exact (hT.block k (by rw [W5.size]; exact hk) h1 (by simp)).trans (h5.block k hk h2 (by simp))
  · exact Nat.le_trans h5.size hT.size
theorem endB {w7 : World} {rb g : Nat} {bS dv : Value} {sc : Int} {tv bv : Value} {a : Int} {n c : Nat} {bs : List PlH} {z : PlH} (y : PlH) (hB : Blk w7 rb 85 (fiC bS sc tv bv dv a)) (hO : Own w7 (rb + 1) 87 5 ePl (.slice (some ⟨g, 0, none⟩) (n + 1) c) (bs ++ [z])) :
    EndD w7 (W5 (w7.setCell ⟨rb, 4, none⟩ (.slice (some ⟨g, 0, none⟩) (n + 1) c)) g n y) rb g bS sc tv bv a n c bs y := by
  have hT := Tw.set_ w7 rb 4 (.slice (some ⟨g, 0, none⟩) (n + 1) c) none
  have hB1 := hB.set_ 4 (.slice (some ⟨g, 0, none⟩) (n + 1) c)
  have hO1 := hO.tw hT (hO.apartB hB (by decide)) (by simp)
  obtain ⟨cg, hcg⟩ := hO1.blkOf
  have h5 := W5.tw (w7.setCell ⟨rb, 4, none⟩ (.slice (some ⟨g, 0, none⟩) (n + 1) c)) g n y
  refine ⟨Blk.off hB1 hcg h5 (by decide), hO1.setLast5 (y := y) len_ePl rfl, fun k hk h1 h2 => ?_, ?_, ⟨h5.os.trans hT.os, h5.tape.trans hT.tape, h5.output.trans hT.output⟩⟩
  · exact (h5.block k (Nat.lt_of_lt_of_le hk hT.size) h2 (by simp)).trans (hT.block k hk h1 (by simp))
  · exact Nat.le_trans hT.size h5.size
/-- One more box data. -/
theorem FmI.more {w2 wr w6 w7 X : World} {rb g : Nat} {bS : Value} {b : List UInt8} {l : List NodeT} {k : Nat} {f : Option (Int × List TrR)} {dv : Value} {ds : List PlH} {n c : Nat} {y : PlH} {tv bv : Value} {hs : List TrkH} {ts : List TbH} (h : FmI w2 wr rb bS b l k f dv ds) (hk : k < l.length) (hn : (l.getD k dN).kind = kData) (ht : topK b l (k + 1) = .ok f)
    (hr : FiI wr rb bS (scF f) tv bv dv (-1) hs ((rF f).map trk0) ts ((rF f).map TrR.tab)) (hnil : f = none → tv = .slice none 0 0 ∧ bv = .slice none 0 0) (he : Ext wr w6) (hg : w6.grownBy w7 dv.ownBlock) (hv : (Value.slice (some ⟨g, 0, none⟩) (n + 1) c).ownBlock = dv.ownBlock ∨ (Value.slice (some ⟨g, 0, none⟩) (n + 1) c).ownBlock = some w6.heap.size)
    (hX : EndD w7 X rb g bS (scF f) tv bv (-1) n c ds y) (hy : y.dat = (l.getD k dN).dat ∧ y.en = (l.getD k dN).en) : FmI w2 X rb bS b l (k + 1) f (.slice (some ⟨g, 0, none⟩) (n + 1) c) (ds ++ [y]) := by
  have e : datN (l.take (k + 1)) = datN (l.take k) ++ [l.getD k dN] := by rw [take_one hk, datN_snoc, if_pos hn]
  have hgo : (Value.slice (some (⟨g, 0, none⟩ : Addr)) (n + 1) c).ownBlock = some g := rfl
  have hsz1 := he.size
  have hsz2 := hg.size
  have hsz3 := hX.size
  have hrb := hr.blk.lt
  have hgl := hX.own.lt g rfl
  have hdl := fun q hq => h.dat.lt q hq
  have hoth : ∀ q, q < wr.heap.size → q ≠ rb → dv.ownBlock ≠ some q → X.heap[q]? = wr.heap[q]? := fun q hq h1 h2 => by
    have hqg : q ≠ g := fun e2 => by
      subst e2
      rcases hv with e3 | e3
      · rw [hgo] at e3; exact h2 e3.symm
      · rw [hgo] at e3; injection e3 with e3; omega
    exact (hX.oth q (by omega) h1 hqg).trans ((hg.block q (by omega) (fun e2 => h2 e2.symm)).trans (he.block q hq))
  refine ⟨ht, Below.chain h.low ⟨hX.tape.1.trans (hg.os.trans he.os), hX.tape.2.1.trans (hg.tape.trans he.tape), hX.tape.2.2.trans (hg.output.trans he.output), by omega, fun q hq => hoth q (by omega) (by omega) (fun e2 => by have := (hdl q e2).1; omega)⟩, ⟨tv, bv, hs, ts, hr.data h.dat (by omega) hoth hX.blk (fun q hq => (hX.own.lt q hq).2) ?_, hnil⟩, hX.own, ?_, fun j hj => ?_⟩
  · rcases hv with e3 | e3
    · exact .inl e3
    · exact .inr ⟨w6.heap.size, hsz1, e3⟩
  · rw [e, List.length_append, List.length_append, h.len]; rfl
  · rw [e]
    by_cases hjl : j < ds.length
    · rw [getD_app_left hjl, getD_app_left (by rw [← h.len]; exact hjl)]
      exact h.dts j hjl
    · have hjd : j = ds.length := by simp at hj; omega
      subst hjd
      rw [getD_app_last]
      have e4 := getD_app_last (l := datN (l.take k)) (x := l.getD k dN) (d := dN)
      rw [← h.len] at e4
      rw [e4]
      exact hy
end Go.Proofs.Ytlonhkjplijlcaa
