/- Several texts in one: Walk: read (the program's reader of films). Conditions as stated; Walks: trackFault, CheckFilm (program). Conditions as stated. -/
import Derived.Test.YtkbmgakehlmcnaaMtq42
import Derived.Test.YtkbmgakehlmcnaaMtq46
import Derived.Test.YtkbmgakehlmcnaaMtq02
import Derived.Test.YtkbmgakehlmcnaaMtq16
namespace Go.Proofs.Ytkbmgakehlmcnaa
open Go.RowKit
set_option linter.unusedVariables false in
set_option linter.unusedSimpArgs false in
set_option maxRecDepth 100000 in
set_option maxHeartbeats 16000000 in
theorem read_any {w : World} {rb : Nat} {b : List UInt8} {A : Option Addr} {n c : Nat} {l : List NodeT} (hB : Blk w rb 75 (frC 0 (.slice none 0 0) (.slice none 0 0) 0)) (hl : NdsAt w b (fun k => k < rb) A n c l) (hb : b.length ≤ 1000000) (hks : ∀ x ∈ l, x.kids.length ≤ 1000000) :
    Calls Try.prog 27 #[.pointer (some ⟨rb, 0, none⟩), .slice A n c, .int .i64 (b.length : Int)] w (ReG w rb (topR b l)) := by
  obtain ⟨ns, hns⟩ := nds_open hl
  have HN0 := hide hns
  have hln := hns.len
  have hbd := hns.at_.bound
  have hrb := hB.lt
  have HBL := hide hb
  have HKS := hide (fun (k : Nat) (hk : k < l.length) => (by rw [List.getD_eq_getElem?_getD, List.getElem?_eq_getElem hk]; exact hks _ (List.getElem_mem hk) : (l.getD k dN).kids.length ≤ 1000000))
  have I0 : Hid (TpI w w rb b l 0 none) := hide ⟨rfl, KpK.ofExt (Ext.refl _), Below.refl _ _, _, _, _, _, RdI.new hB⟩
  clear hl hns hB hks
  go_enter Try.func27, Try.ntmps27
  go_wp2_with fail
  go_loopw [7, 14] (fun r7 ri wr => ∃ (k : Nat) (f : Option (Int × List TrR)), k ≤ n ∧ ri = .int .i64 (k : Int) ∧ r7 = .bool f.isSome ∧ Hid (TpI w wr rb b l k f)) (fun _ ri _ => n - (intOf ri).toNat)
  case atStart => exact ⟨0, none, by omega, rfl, rfl, I0⟩
  case round =>
    clear I0
    obtain ⟨k, f, hk, rfl, rfl, HI⟩ := hrel
    obtain ⟨wl, hwl⟩ : ∃ wl, wl = wr := ⟨_, rfl⟩
    subst hwl
    obtain ⟨tv, bv, hs, ts, hrd⟩ := HI.out.rd
    have RD := hide hrd
    clear hrd
    by_cases hlt : k < n
    · have HNO := hide (HN0.out.below HI.out.low)
      obtain ⟨bA, oA, rfl, _⟩ := HNO.out.at_.addr (by omega)
      obtain ⟨x, hx⟩ : ∃ x, l.getD k dN = x := ⟨_, rfl⟩
      obtain ⟨y, hy⟩ : ∃ y, ns.getD k default = y := ⟨_, rfl⟩
      have hd := HNO.out.hd k hlt
      rw [hx, hy] at hd
      have HX := hide hx
      have HKL := hide (HKS.out k (by omega))
      have hat := HNO.out.at_
      obtain ⟨⟨yk, yf, dA, dn, dc, kA, kn, kc⟩, yg, yd, ye, nA, nn, nc⟩ := y
      have a0 : wl.cell? ⟨bA, oA + k * 8, none⟩ = some (.string ⟨yk.toArray⟩) := hat.cellK hlt default 0 _ (by rw [hy]; rfl)
      have a1 : wl.cell? ⟨bA, oA + k * 8 + 1, none⟩ = some (.int .i64 yf) := hat.cellK hlt default 1 _ (by rw [hy]; rfl)
      have a2 : wl.cell? ⟨bA, oA + k * 8 + 2, none⟩ = some (.slice dA dn dc) := hat.cellK hlt default 2 _ (by rw [hy]; rfl)
      have a3 : wl.cell? ⟨bA, oA + k * 8 + 3, none⟩ = some (.slice kA kn kc) := hat.cellK hlt default 3 _ (by rw [hy]; rfl)
      have a4 : wl.cell? ⟨bA, oA + k * 8 + 4, none⟩ = some (.int .i64 (yg : Int)) := hat.cellK hlt default 4 _ (by rw [hy]; rfl)
      have a5 : wl.cell? ⟨bA, oA + k * 8 + 5, none⟩ = some (.int .i64 (yd : Int)) := hat.cellK hlt default 5 _ (by rw [hy]; rfl)
      have a6 : wl.cell? ⟨bA, oA + k * 8 + 6, none⟩ = some (.int .i64 (ye : Int)) := hat.cellK hlt default 6 _ (by rw [hy]; rfl)
      have a7 : wl.cell? ⟨bA, oA + k * 8 + 7, none⟩ = some (.slice nA nn nc) := hat.cellK hlt default 7 _ (by rw [hy]; rfl)
      have HYK : Hid (yk = x.kind) := hide hd.kind
      have HYG : Hid (yg = x.beg) := hide hd.beg
      have hkd : NdsAt wl b (fun k => k < rb) nA nn nc x.kids := hd.kids
      obtain ⟨ks, hks⟩ := nds_open hkd
      have HK0 := hide hks
      have hkl := hks.len
      have hkb := hks.at_.bound
      have i1 : (k : Int) < (n : Int) := by omega
      have i0 : (0 : Int) ≤ (k : Int) := by omega
      have HLT := hide hlt
      clear hat hd hy hks hkd hx
      go_upto_region 5 with (fail)
      refine gen_wpC fun w2 h2 => ?_
      obtain ⟨nb, hnb⟩ : ∃ nb, nb = wl.heap.size := ⟨_, rfl⟩
      rw [← hnb]
      have E2 : Hid (Ext wl w2) := hide (by rw [h2]; exact Ext.alloc _ _)
      have X2 : Hid (Blk w2 nb 122 #[.string ⟨yk.toArray⟩, .int .i64 yf, .slice dA dn dc, .slice kA kn kc, .int .i64 (yg : Int), .int .i64 (yd : Int), .int .i64 (ye : Int), .slice nA nn nc]) := hide (by rw [h2, hnb]; exact Blk.new _ _ _)
      have LO2 : Hid (Below rb w w2) := hide (Below.chain HI.out.low (Below.ofExt E2.out (Nat.le_of_lt RD.out.blk.lt)))
      have KP2 : Hid (KpK w w2) := hide (KpK.chain HI.out.kp (KpK.ofExt E2.out))
      have R2 := hide (RD.out.ext E2.out)
      have x0 : w2.cell? ⟨nb, 0, none⟩ = some (.string ⟨yk.toArray⟩) := X2.out.cell 0
      have x4 : w2.cell? ⟨nb, 4, none⟩ = some (.int .i64 (yg : Int)) := X2.out.cell 4
      have x7 : w2.cell? ⟨nb, 7, none⟩ = some (.slice nA nn nc) := X2.out.cell 7
      clear h2 hnb a0 a1 a2 a3 a4 a5 a6 a7
      by_cases hkf : yk = kFilm
      · subst hkf
        cases f with
        | some g =>
          have HE := hide (topR_bad (topK_two HI.out.top (by omega) (by rw [HX.out]; exact HYK.out.symm)) (by omega))
          rw [HX.out, ← HYG.out] at HE
          have HW := hide (wrong_any (a := (yg : Int)) R2.out.blk)
          go_wp2_with ((go_at_call 53; with_reducible refine HW.out.mono ?_); rintro e w' ⟨rfl, p1, p2⟩; have HB1 := hide p1; have HT1 := hide p2; clear p1 p2)
          go_ret
          exact ReG.bad HE.out (KpK.chain KP2.out (KpK.ofTw R2.out.blk HT1.out)) (Below.chain LO2.out (Below.ofTw HT1.out (Nat.le_of_lt R2.out.blk.lt) (Nat.le_refl _))) HB1.out
        | none =>
          have HTF := hide (topK_film HI.out.top (by omega) (by rw [HX.out]; exact HYK.out.symm))
          rw [HX.out] at HTF
          have HK2 := hide (HK0.out.below (Below.ofExt E2.out (Nat.le_of_lt RD.out.blk.lt)))
          have HHAS := hide (has_any 0 0 rfl kHead b.length R2.out.blk HK2.out)
          cases hkr : kidR x.kids 0 kHead b.length with
          | bad a' =>
            have HE : Hid (topR b l = .bad a') := hide (topR_bad (k := k + 1) (by rw [HTF.out, filR_kid hkr]; rfl) (by omega))
            rw [hkr] at HHAS
            clear hkr
            go_wp2_with ((go_at_call 54; with_reducible refine HHAS.out.mono ?_); rintro e w' hh; obtain ⟨rfl, p1, p2⟩ := hh.2 _ rfl; have HB1 := hide p1; have HT1 := hide p2; clear p1 p2 hh)
            go_ret
            exact ReG.bad HE.out (KpK.chain KP2.out (KpK.ofTw R2.out.blk HT1.out)) (Below.chain LO2.out (Below.ofTw HT1.out (Nat.le_of_lt R2.out.blk.lt) (Nat.le_refl _))) HB1.out
          | ok z =>
            obtain ⟨kl, kz, kk⟩ := kidR_ok hkr
            have HKR := hide hkr
            rw [hkr] at HHAS
            obtain ⟨bK, oK, rfl, _⟩ := HK2.out.at_.addr (by omega)
            have hd := HK2.out.hd 0 (by omega)
            have hat := HK2.out.at_
            have hda := hd.data
            rw [data_boxOf (by rw [kz, kk]; rfl)] at hda
            obtain ⟨yz, hyz⟩ : ∃ yz, ks.getD 0 default = yz := ⟨_, rfl⟩
            rw [hyz] at hd hda
            rw [kz] at hda
            have c2 : w2.cell? ⟨bK, oK + 2, none⟩ = some (.slice yz.box.dA yz.box.dn yz.box.dc) := by simpa using hat.cellK (k := 0) (by omega) default 2 _ (by rw [hyz]; rfl)
            have c4 : w2.cell? ⟨bK, oK + 4, none⟩ = some (.int .i64 (z.beg : Int)) := by have := hat.cellK (k := 0) (by omega) default 4 _ (by rw [hyz]; rfl); rw [hd.beg, kz] at this; simpa using this
            have hynn : 0 < nn := by omega
            obtain ⟨C, hC⟩ : ∃ C, ctB b z = C := ⟨_, rfl⟩
            rw [hC] at hda
            have HC := hide hC
            have HDA := hide hda
            have hlc := hda.len
            have hlm := hda.bound
            clear hkr hd hat kl hyz kz kk hda hC
            by_cases h4 : yz.box.dn = 4
            · have hda := HDA.out
              rw [h4] at c2 hda
              have HNB := hide (numberOf_any hda (by omega))
              clear hda
              have hn2 : numB C < 4294967296 := numB_lt 4 C (by omega)
              have hw : IntKind.i64.wrap ((numB C : Nat) : Int) = ((numB C : Nat) : Int) := by rw [IntKind.wrap_i64]; omega
              have q0 : w2.cell? ⟨rb, 0, none⟩ = some (.int .i64 (scF none)) := R2.out.blk.cell 0
              have qf := R2.out.blk.frozen 0
              have HFR : Hid (filR b x = (trksK b x.kids (x.kids.length - 1)).then fun r => .ok ((numB C : Int), r)) := hide (by rw [filR_more HKR.out (by rw [HC.out]; omega), HC.out])
              have J0 : Hid (TsI w2 (w2.setCell ⟨rb, 0, none⟩ (.int .i64 (numB C : Int))) rb (numB C : Int) b x.kids 0 []) := hide (by
                have hT := Tw.set_ w2 rb 0 (.int .i64 (numB C : Int)) none
                exact ⟨rfl, KpK.ofTw R2.out.blk hT, Below.ofTw hT (Nat.le_of_lt R2.out.blk.lt) (Nat.le_refl _), _, _, _, _, R2.out.tw hT (R2.out.blk.set_ 0 _)⟩)
              go_wp2_with (first | ((go_at_call 54; with_reducible refine HHAS.out.mono ?_); rintro e w' hh; obtain ⟨rfl, rfl⟩ := hh.1 _ rfl; clear hh) | ((go_at_call 55; with_reducible refine HNB.out.mono ?_); rintro e w' ⟨rfl, rfl⟩))
              go_loopw [11] (fun ri wx => ∃ (q : Nat) (r : List TrR), ri = .int .i64 ((q : Int) + 1) ∧ q + 1 ≤ nn ∧ Hid (TsI w2 wx rb (numB C : Int) b x.kids q r)) (fun ri _ => nn - (intOf ri).toNat)
              case atStart => exact ⟨0, [], by simp, by omega, J0⟩
              case round =>
                clear J0 q0 qf
                obtain ⟨q, r, rfl, hq, HT⟩ := hrel
                obtain ⟨tv1, bv1, hs1, ts1, hrd1⟩ := HT.out.rd
                have RT := hide hrd1
                clear hrd1
                have y7 : wr.cell? ⟨nb, 7, none⟩ = some (.slice (some ⟨bK, oK, none⟩) nn nc) := (HT.out.kp _ _ (by decide) (by decide) (by decide) _ X2.out).cell 7
                have KPX : Hid (KpK w wr) := hide (KpK.chain KP2.out HT.out.kp)
                have LOX : Hid (Below rb w wr) := hide (Below.chain LO2.out HT.out.low)
                have hrl := trksK_len HT.out.top (by omega)
                by_cases hlt2 : q + 1 < nn
                · have HKX := hide (HK2.out.below HT.out.low)
                  have HHX := hide (has_any (q + 1) ((q : Int) + 1) (by omega) kTrck b.length RT.out.blk HKX.out)
                  have j1 : (q : Int) + 1 < (nn : Int) := by omega
                  have j0 : (0 : Int) ≤ (q : Int) + 1 := by omega
                  have jt : ((q : Int) + 1).toNat = q + 1 := by omega
                  have j8 : IntKind.i64.wrap ((q : Int) + 1 + 1) = (q : Int) + 1 + 1 := by rw [IntKind.wrap_i64]; omega
                  by_cases hk2 : (x.kids.getD (q + 1) dN).kind = kTrck
                  · rw [kidR_good (by omega) hk2] at HHX
                    have HTS := hide (trksK_trk HT.out.top (by omega) hk2)
                    obtain ⟨xk, hxk⟩ : ∃ xk, x.kids.getD (q + 1) dN = xk := ⟨_, rfl⟩
                    obtain ⟨yk2, hyk2⟩ : ∃ y, ks.getD (q + 1) default = y := ⟨_, rfl⟩
                    have hd2 := HKX.out.hd (q + 1) hlt2
                    rw [hxk] at HTS HHX
                    rw [hxk, hyk2] at hd2
                    have hat := HKX.out.at_
                    obtain ⟨⟨zk, zf, zdA, zdn, zdc, zkA, zkn, zkc⟩, zg, zd, ze, znA, znn, znc⟩ := yk2
                    have b0 : wr.cell? ⟨bK, oK + (q + 1) * 8, none⟩ = some (.string ⟨zk.toArray⟩) := hat.cellK hlt2 default 0 _ (by rw [hyk2]; rfl)
                    have b1 : wr.cell? ⟨bK, oK + (q + 1) * 8 + 1, none⟩ = some (.int .i64 zf) := hat.cellK hlt2 default 1 _ (by rw [hyk2]; rfl)
                    have b2 : wr.cell? ⟨bK, oK + (q + 1) * 8 + 2, none⟩ = some (.slice zdA zdn zdc) := hat.cellK hlt2 default 2 _ (by rw [hyk2]; rfl)
                    have b3 : wr.cell? ⟨bK, oK + (q + 1) * 8 + 3, none⟩ = some (.slice zkA zkn zkc) := hat.cellK hlt2 default 3 _ (by rw [hyk2]; rfl)
                    have b4 : wr.cell? ⟨bK, oK + (q + 1) * 8 + 4, none⟩ = some (.int .i64 (zg : Int)) := hat.cellK hlt2 default 4 _ (by rw [hyk2]; rfl)
                    have b5 : wr.cell? ⟨bK, oK + (q + 1) * 8 + 5, none⟩ = some (.int .i64 (zd : Int)) := hat.cellK hlt2 default 5 _ (by rw [hyk2]; rfl)
                    have b6 : wr.cell? ⟨bK, oK + (q + 1) * 8 + 6, none⟩ = some (.int .i64 (ze : Int)) := hat.cellK hlt2 default 6 _ (by rw [hyk2]; rfl)
                    have b7 : wr.cell? ⟨bK, oK + (q + 1) * 8 + 7, none⟩ = some (.slice znA znn znc) := hat.cellK hlt2 default 7 _ (by rw [hyk2]; rfl)
                    have HTK := hide (track_any RT.out hd2 (by rw [List.length_map]; have := HKL.out; rw [HX.out] at this; omega) (by rw [List.length_map]; have := HKL.out; rw [HX.out] at this; omega) HBL.out)
                    clear hd2 hat hyk2 hk2
                    cases htr : trkR b xk with
                    | bad a' =>
                      have HE : Hid (topR b l = .bad a') := hide (topR_bad (k := k + 1) (by rw [HTF.out, HFR.out, trksK_bad (by rw [HTS.out, htr]; rfl) _ (show q + 1 ≤ x.kids.length - 1 by omega)]; rfl) (by omega))
                      rw [htr] at HTK
                      clear htr
                      go_wp2_with (first | ((go_at_call 54; refine HHX.out.mono ?_); rintro e w' hh; obtain ⟨rfl, rfl⟩ := hh.1 _ rfl; clear hh) | ((go_at_call 56; with_reducible refine HTK.out.mono ?_); rintro e w' ⟨g1, g2, _, g4⟩; obtain ⟨rfl, tv2, bv2, g5⟩ := g4 _ rfl; have G1 := hide g1; have G2 := hide g2; have G5 := hide g5; clear g1 g2 g4 g5))
                      go_ret
                      exact ReG.bad HE.out (KpK.chain KPX.out G1.out) (Below.chain LOX.out G2.out) G5.out
                    | ok t =>
                      rw [htr] at HTK
                      have HTS2 : Hid (trksK b x.kids (q + 1) = .ok (r ++ [t])) := hide (by rw [HTS.out, htr]; rfl)
                      clear htr
                      go_wp2_with (first | ((go_at_call 54; refine HHX.out.mono ?_); rintro e w' hh; obtain ⟨rfl, rfl⟩ := hh.1 _ rfl; clear hh) | ((go_at_call 56; with_reducible refine HTK.out.mono ?_); rintro e w' ⟨g1, g2, g3, _⟩; obtain ⟨rfl, tv2, bv2, y2, z2, g5⟩ := g3 _ rfl; have G1 := hide g1; have G2 := hide g2; have G5 := hide g5; clear g1 g2 g3 g5))
                      go_roundw
                      case measure => simp [intOf]; omega
                      first | (refine (?_ : ∃ (_ : Nat), _)) | ((repeat apply Exists.intro); refine ⟨?_, rfl⟩)
                      exact ⟨q + 1, r ++ [t], by go_num, by omega, hide ⟨HTS2.out, KpK.chain HT.out.kp G1.out, Below.chain HT.out.low G2.out, _, _, _, _, by rw [List.map_append, List.map_append]; exact G5.out⟩⟩
                  · have HE : Hid (topR b l = .bad (x.kids.getD (q + 1) dN).beg) := hide (topR_bad (k := k + 1) (by rw [HTF.out, HFR.out, trksK_bad (trksK_kind HT.out.top (by omega) hk2) _ (show q + 1 ≤ x.kids.length - 1 by omega)]; rfl) (by omega))
                    rw [kidR_bad (by omega) hk2] at HHX
                    generalize (x.kids.getD (q + 1) dN).beg = bg at *
                    clear hk2
                    go_wp2_with ((go_at_call 54; refine HHX.out.mono ?_); rintro e w' hh; obtain ⟨rfl, p1, p2⟩ := hh.2 _ rfl; have HB1 := hide p1; have HT1 := hide p2; clear p1 p2 hh)
                    go_ret
                    exact ReG.bad HE.out (KpK.chain KPX.out (KpK.ofTw RT.out.blk HT1.out)) (Below.chain LOX.out (Below.ofTw HT1.out (Nat.le_of_lt RT.out.blk.lt) (Nat.le_refl _))) HB1.out
                · have hqn : q = x.kids.length - 1 := by omega
                  have HTP : Hid (topK b l (k + 1) = .ok (some ((numB C : Int), r))) := hide (by rw [HTF.out, HFR.out, ← hqn, HT.out.top]; rfl)
                  have j1 : ¬ (q : Int) + 1 < (nn : Int) := by omega
                  clear hqn
                  go_wp2_with fail
                  go_roundw
                  case measure => simp [intOf]; omega
                  first | (refine (?_ : ∃ (_ : Nat), _)) | ((repeat apply Exists.intro); refine ⟨?_, rfl⟩)
                  exact ⟨k + 1, some ((numB C : Int), r), by omega, by go_num, rfl, hide ⟨HTP.out, KPX.out, LOX.out, _, _, _, _, RT.out⟩⟩
            · have HE : Hid (topR b l = .bad z.beg) := hide (topR_bad (k := k + 1) (by rw [HTF.out, filR_len HKR.out (by rw [HC.out]; omega)]; rfl) (by omega))
              have HW := hide (wrong_any (a := (z.beg : Int)) R2.out.blk)
              have hne : ((yz.box.dn : Int) ≠ 4) := by omega
              go_wp2_with (first | ((go_at_call 54; with_reducible refine HHAS.out.mono ?_); rintro e w' hh; obtain ⟨rfl, rfl⟩ := hh.1 _ rfl; clear hh) | ((go_at_call 53; with_reducible refine HW.out.mono ?_); rintro e w' ⟨rfl, p1, p2⟩; have HB1 := hide p1; have HT1 := hide p2; clear p1 p2))
              go_ret
              exact ReG.bad HE.out (KpK.chain KP2.out (KpK.ofTw R2.out.blk HT1.out)) (Below.chain LO2.out (Below.ofTw HT1.out (Nat.le_of_lt R2.out.blk.lt) (Nat.le_refl _))) HB1.out
      · have hne : (yk == [102, 105, 108, 109]) = false := by simpa using (show ¬ yk = [102, 105, 108, 109] from hkf)
        have HTP := hide (topK_skip HI.out.top (by omega) (by rw [HX.out, ← HYK.out]; exact hkf))
        go_wp2_with fail
        go_roundw
        case measure => simp [intOf]; omega
        first | (refine (?_ : ∃ (_ : Nat), _)) | ((repeat apply Exists.intro); refine ⟨?_, rfl⟩)
        exact ⟨k + 1, f, by omega, by go_num, rfl, hide ⟨HTP.out, KP2.out, LO2.out, _, _, _, _, R2.out⟩⟩
    · obtain rfl : k = n := by omega
      cases f with
      | some g =>
        have HE : Hid (topR b l = .ok g) := hide (by unfold topR; rw [hln, HI.out.top]; rfl)
        go_wp2_with fail
        go_ret
        refine ⟨HI.out.kp, HI.out.low, fun sc l' hx => ⟨rfl, ?_⟩, fun a ha => by rw [HE.out] at ha; cases ha⟩
        rw [HE.out] at hx
        cases hx
        exact ⟨_, _, _, _, RD.out⟩
      | none =>
        have HE : Hid (topR b l = .bad b.length) := hide (by unfold topR; rw [hln, HI.out.top]; rfl)
        have HW := hide (wrong_any (a := (b.length : Int)) RD.out.blk)
        go_wp2_with ((go_at_call 53; with_reducible refine HW.out.mono ?_); rintro e w' ⟨rfl, p1, p2⟩; have HB1 := hide p1; have HT1 := hide p2; clear p1 p2)
        go_ret
        exact ReG.bad HE.out (KpK.chain HI.out.kp (KpK.ofTw RD.out.blk HT1.out)) (Below.chain HI.out.low (Below.ofTw HT1.out (Nat.le_of_lt RD.out.blk.lt) (Nat.le_refl _))) HB1.out
theorem noScale_any (n : Int) (w : World) : Calls Try.prog 35 #[.int .i64 n] w fun e w' => e = .returned (.bool (badSc n)) ∧ w = w' := by
  unfold badSc
  by_cases h : n < 1 ∨ 1000000000 < n
  · rw [decide_eq_true h]
    have HO := hide (out_yes h w)
    clear h
    go_enter Try.func35, Try.ntmps35
    go_wp2_with ((go_at_call 14; with_reducible refine HO.out.mono ?_); rintro e w' ⟨rfl, rfl⟩)
    go_ret
    exact ⟨rfl, rfl⟩
  · rw [decide_eq_false h]
    have HO := hide (out_no (lo := 1) (hi := 1000000000) (n := n) (by omega) w)
    clear h
    go_enter Try.func35, Try.ntmps35
    go_wp2_with ((go_at_call 14; with_reducible refine HO.out.mono ?_); rintro e w' ⟨rfl, rfl⟩)
    go_ret
    exact ⟨rfl, rfl⟩
abbrev tkV (y : TrkH) (x : TrkT) : Value := .agg #[.string ⟨x.name.toArray⟩, .int .i64 x.scale, .slice y.sA y.sn y.sc, .slice y.eA y.en y.ec]
set_option linter.unusedVariables false in
set_option maxRecDepth 100000 in
set_option maxHeartbeats 8000000 in
theorem trackFault_any {x : TrkT} {y : TrkH} {A : Option Addr} {n c : Nat} {hs : List TrkH} {l : List TrkT} {w : World} (hx : TkOk w y x) (h : TksAt w A n c hs l) (hn : x.name.length ≤ maxLen) :
    Calls Try.prog 46 #[tkV y x, .slice A n c] w fun e w' => e = .returned (.int .i64 (trF x l)) ∧ Ext w w' := by
  show Calls Try.prog 46 #[.agg #[.string ⟨x.name.toArray⟩, .int .i64 x.scale, .slice y.sA y.sn y.sc, .slice y.eA y.en y.ec], .slice A n c] w _
  have hs1 := hx.2.2.1
  have hs2 := hx.2.2.2
  have HVT : Hid (trF x l = if nameB ⟨x.name.toArray⟩ = false then 5 else if l.any (fun y => y.name == x.name) = true then 7 else if badSc x.scale = true then 1 else if smpF x.smp ≠ 0 then smpF x.smp else if 50 < x.ed.length then 2 else edF x.ed) := hide rfl
  have HIN := hide (fun (W : World) => isName_any ⟨x.name.toArray⟩ (by show x.name.toArray.size ≤ maxLen; rw [List.size_toArray]; assumption) W)
  have HNS := hide (fun (W : World) => noScale_any x.scale W)
  have HKS := hide (fun (W : World) (hW : Ext w W) => keySamples_any (hs1.ext hW))
  have HS2 := hide hs2
  have hel := hs2.len
  have HEL := hide hel
  have heb := hs2.bound
  have HAT := hide h.at_
  have HLN := hide h.len
  have HOK := hide h.ok
  have hnb := h.at_.bound
  have X0 := hide (Blk.new w 47 #[.string ⟨x.name.toArray⟩, .int .i64 x.scale, .slice y.sA y.sn y.sc, .slice y.eA y.en y.ec])
  have E0 := hide (Ext.alloc w (.cells #[.string ⟨x.name.toArray⟩, .int .i64 x.scale, .slice y.sA y.sn y.sc, .slice y.eA y.en y.ec] 47))
  rw [hel] at HVT
  clear hs1 hs2 hx h hn hel
  generalize trF x l = R at *
  generalize x.name = xn at *
  generalize x.scale = xs at *
  generalize x.ed = xe at *
  generalize y.sA = sA at *
  generalize y.sn = sn at *
  generalize y.sc = sc at *
  generalize y.eA = eA at *
  generalize y.en = en at *
  generalize y.ec = ec at *
  go_enter Try.func46, Try.ntmps46
  go_upto_region 1 with (fail)
  refine gen_wpC fun w0 h0 => ?_
  rw [← h0] at X0 E0
  obtain ⟨xb, hxb⟩ : ∃ xb, xb = w.heap.size := ⟨_, rfl⟩
  rw [← hxb] at X0 ⊢
  clear h0 hxb
  have x0 : w0.cell? ⟨xb, 0, none⟩ = some (.string ⟨xn.toArray⟩) := X0.out.cell 0
  cases hnm : nameB ⟨xn.toArray⟩ with
  | false =>
    have HE : Hid (R = 5) := hide (by rw [HVT.out, if_pos hnm])
    rw [hnm] at HIN
    clear hnm
    go_wp2_with fail
    with_reducible refine (HIN.out _).mono ?_
    rintro e w' ⟨rfl, rfl⟩
    go_wp2_with fail
    go_ret
    exact ⟨ret_int HE.out.symm, E0.out⟩
  | true =>
  have HVT2 : Hid (R = if l.any (fun y => y.name == xn) = true then 7 else if badSc xs = true then 1 else if smpF x.smp ≠ 0 then smpF x.smp else if 50 < en then 2 else edF xe) := hide (by rw [HVT.out, if_neg (by simp [hnm])])
  rw [hnm] at HIN
  clear hnm HVT
  go_wp2_with fail
  with_reducible refine (HIN.out _).mono ?_
  rintro e w' ⟨rfl, rfl⟩
  go_wp2_with fail
  clear x0 HIN
  go_loopw [17] (fun ri wr => ∃ k : Nat, k ≤ n ∧ ri = .int .i64 k ∧ Hid (∀ j, j < k → (l.getD j default).name ≠ xn) ∧ Hid (Ext w0 wr)) (fun ri _ => n - (intOf ri).toNat)
  case atStart => exact ⟨0, by omega, rfl, hide (fun j hj => absurd hj (Nat.not_lt_zero _)), hide (Ext.refl _)⟩
  case round =>
    obtain ⟨k, hk, rfl, HA, HX⟩ := hrel
    by_cases hlt : k < n
    · obtain ⟨b, o, rfl, _⟩ := HAT.out.addr (by omega)
      have EX := Ext.trans E0.out HX.out
      have hat := HAT.out.ext EX
      have hok := HOK.out k hlt
      obtain ⟨z, hz⟩ : ∃ z, hs.getD k default = z := ⟨_, rfl⟩
      have a0 : wr.cell? ⟨b, o + k * 4, none⟩ = some (.string ⟨z.name.toArray⟩) := hat.cellK hlt default 0 _ (by rw [hz]; rfl)
      have a1 : wr.cell? ⟨b, o + k * 4 + 1, none⟩ = some (.int .i64 z.scale) := hat.cellK hlt default 1 _ (by rw [hz]; rfl)
      have a2 : wr.cell? ⟨b, o + k * 4 + 2, none⟩ = some (.slice z.sA z.sn z.sc) := hat.cellK hlt default 2 _ (by rw [hz]; rfl)
      have a3 : wr.cell? ⟨b, o + k * 4 + 3, none⟩ = some (.slice z.eA z.en z.ec) := hat.cellK hlt default 3 _ (by rw [hz]; rfl)
      rw [hz] at hok
      have HKK : Hid (z.name = (l.getD k default).name) := hide hok.1
      have x0 : wr.cell? ⟨xb, 0, none⟩ = some (.string ⟨xn.toArray⟩) := HX.out.cell (X0.out.cell 0)
      have x0' : (wr.alloc (.cells #[.string ⟨z.name.toArray⟩, .int .i64 z.scale, .slice z.sA z.sn z.sc, .slice z.eA z.en z.ec] 47)).cell? ⟨xb, 0, none⟩ = some (.string ⟨xn.toArray⟩) := (Ext.alloc _ _).cell x0
      have i1 : (k : Int) < (n : Int) := by omega
      have i0 : (0 : Int) ≤ (k : Int) := by omega
      have E5 : Hid (Ext w0 (wr.alloc (.cells #[.string ⟨z.name.toArray⟩, .int .i64 z.scale, .slice z.sA z.sn z.sc, .slice z.eA z.en z.ec] 47))) := hide (Ext.trans HX.out (Ext.alloc _ _))
      by_cases heq : z.name = xn
      · have HE : Hid (R = 7) := hide (by rw [HVT2.out, if_pos (twice_yes (k := k) (by have := HLN.out; omega) (by rw [← HKK.out]; exact heq))])
        have dk : (z.name == xn) = true := by rw [heq]; simp
        clear hat hok hz EX heq
        go_wp2_with fail
        go_ret
        exact ⟨ret_int HE.out.symm, Ext.trans E0.out E5.out⟩
      · have dk : (z.name == xn) = false := by rw [beq_eq_false_iff_ne]; exact heq
        have HA2 : Hid (∀ j, j < k + 1 → (l.getD j default).name ≠ xn) := hide (fun j hj => by
          rcases Nat.lt_succ_iff_lt_or_eq.1 hj with h | h
          · exact HA.out j h
          · rw [h, ← HKK.out]; exact heq)
        clear hat hok hz EX heq
        go_wp2_with fail
        exact ⟨⟨k + 1, by omega, by go_num, HA2, E5⟩, by simp [intOf]; omega⟩
    · obtain rfl : k = n := by omega
      have HVT3 : Hid (R = if badSc xs = true then 1 else if smpF x.smp ≠ 0 then smpF x.smp else if 50 < en then 2 else edF xe) := hide (by rw [HVT2.out, if_neg (by rw [twice_no (fun j hj => HA.out j (by have := HLN.out; omega))]; simp)])
      obtain ⟨w2, hw2⟩ : ∃ w2, w2 = wr := ⟨_, rfl⟩
      subst hw2
      have XB := hide (X0.out.ext HX.out)
      have x1 : w2.cell? ⟨xb, 1, none⟩ = some (.int .i64 xs) := XB.out.cell 1
      have EW2 := hide (Ext.trans E0.out HX.out)
      clear hlt HA HVT2 HX X0
      cases hsc : badSc xs with
      | true =>
        have HE : Hid (R = 1) := hide (by rw [HVT3.out, if_pos hsc])
        rw [hsc] at HNS
        clear hsc
        go_wp2_with fail
        with_reducible refine (HNS.out _).mono ?_
        rintro e w' ⟨rfl, rfl⟩
        go_wp2_with fail
        go_ret
        exact ⟨ret_int HE.out.symm, EW2.out⟩
      | false =>
      have HVT4 : Hid (R = if smpF x.smp ≠ 0 then smpF x.smp else if 50 < en then 2 else edF xe) := hide (by rw [HVT3.out, if_neg (by simp [hsc])])
      rw [hsc] at HNS
      clear hsc HVT3
      go_wp2_with fail
      with_reducible refine (HNS.out _).mono ?_
      rintro e w' ⟨rfl, rfl⟩
      clear x1
      have x2 : w2.cell? ⟨xb, 2, none⟩ = some (.slice sA sn sc) := XB.out.cell 2
      generalize smpF x.smp = sf at *
      go_wp2_with fail
      with_reducible refine (HKS.out _ EW2.out).mono ?_
      rintro e w3 ⟨rfl, e3⟩
      have EW3 := hide (Ext.trans EW2.out e3)
      have XC := hide (XB.out.ext e3)
      clear e3 x2 XB HKS
      by_cases hsf : sf = 0
      rotate_left
      · have HE : Hid (R = sf) := hide (by rw [HVT4.out, if_pos hsf])
        have d0 : (sf != 0) = true := by simp [hsf]
        clear hsf
        go_wp2_with fail
        go_ret
        exact ⟨ret_int HE.out.symm, EW3.out⟩
      have HVT5 : Hid (R = if 50 < en then 2 else edF xe) := hide (by rw [HVT4.out, if_neg (by simp [hsf])])
      subst hsf
      have x3 : w3.cell? ⟨xb, 3, none⟩ = some (.slice eA en ec) := XC.out.cell 3
      clear HVT4
      by_cases h50 : 50 < en
      · have HE : Hid (R = 2) := hide (by rw [HVT5.out, if_pos h50])
        have g1 : (50 : Int) < (en : Int) := by omega
        clear h50
        go_wp2_with fail
        go_ret
        exact ⟨ret_int HE.out.symm, EW3.out⟩
      have HVT6 : Hid (R = edF xe) := hide (by rw [HVT5.out, if_neg h50])
      have g1 : ¬ (50 : Int) < (en : Int) := by omega
      have hen : en ≤ 50 := by omega
      clear h50 HVT5
      go_wp2_with fail
      clear g1 x3
      go_loopw [8, 43] (fun ra ri wr => ∃ k : Nat, k ≤ en ∧ ri = .int .i64 k ∧ ra = .int .i64 (sumE (xe.take k)) ∧ Hid (∀ j, j < k → badE (xe.getD j (0, 0)) = false) ∧ Hid (Ext w3 wr)) (fun _ ri _ => en - (intOf ri).toNat)
      case atStart => exact ⟨0, by omega, rfl, by simp [sumE], hide (fun j hj => absurd hj (Nat.not_lt_zero _)), hide (Ext.refl _)⟩
      case round =>
        obtain ⟨q, hq, rfl, rfl, HB, HY⟩ := hrel
        by_cases hql : q < en
        · obtain ⟨b2, o2, rfl, _⟩ := HS2.out.addr (by omega)
          have hat := HS2.out.ext (Ext.trans EW3.out HY.out)
          obtain ⟨a0, a1⟩ := hat.pair hql
          have hsu := sumE_take (l := xe) (k := q) (by have := HEL.out; omega)
          have HSU := hide hsu
          have hbd : 0 ≤ sumE (xe.take q) ∧ sumE (xe.take q) ≤ 1000000000000000 * (q : Int) := by
            have h1 : ∀ k, k < (xe.take q).length → badE ((xe.take q).getD k (0, 0)) = false := fun k hk => by
              have hkq : k < q := by rw [List.length_take] at hk; omega
              have := HB.out k hkq
              simp only [List.getD_eq_getElem?_getD, List.getElem?_take, hkq, if_true] at this ⊢
              exact this
            have h2 := sumE_bd h1 q (by rw [List.length_take]; have := HEL.out; omega)
            rwa [List.take_take, Nat.min_self] at h2
          have HBAD := hide (fun hb => edF_bad (l := xe) (k := q) (by have := HEL.out; omega) hb)
          have HNX : Hid (badE (xe.getD q (0, 0)) = false → ∀ j, j < q + 1 → badE (xe.getD j (0, 0)) = false) := hide (fun hb j hj => by
            rcases Nat.lt_succ_iff_lt_or_eq.1 hj with h | h
            · exact HB.out j h
            · rw [h]; exact hb)
          have HBV : Hid (badE (xe.getD q (0, 0)) = (decide ((xe.getD q (0, 0)).1 < 1 ∨ 1000000000000000 < (xe.getD q (0, 0)).1) || decide ((xe.getD q (0, 0)).2 < -1 ∨ 1000000000000000 < (xe.getD q (0, 0)).2))) := hide rfl
          generalize badE (xe.getD q (0, 0)) = bb at *
          generalize (xe.getD q (0, 0)).1 = p at *
          generalize (xe.getD q (0, 0)).2 = r at *
          generalize sumE (xe.take q) = S at *
          have j1 : (q : Int) < (en : Int) := by omega
          have j0 : (0 : Int) ≤ (q : Int) := by omega
          have E5 : Hid (Ext w3 (wr.alloc (.cells #[.int .i64 p, .int .i64 r] 112))) := hide (Ext.trans HY.out (Ext.alloc _ _))
          clear hat hsu
          by_cases hp : p < 1 ∨ 1000000000000000 < p
          · have HE : Hid (R = 1) := hide (by rw [HVT6.out, HBAD.out (by rw [HBV.out, decide_eq_true hp]; rfl)])
            have HO1 := hide (fun (W : World) => out_yes hp W)
            clear hp hbd
            go_wp2_with fail
            with_reducible refine (HO1.out _).mono ?_
            rintro e w' ⟨rfl, rfl⟩
            go_wp2_with fail
            go_ret
            exact ⟨ret_int HE.out.symm, Ext.trans EW3.out E5.out⟩
          have HO1 := hide (fun (W : World) => out_no (n := p) (lo := 1) (hi := 1000000000000000) (by omega) W)
          by_cases hr : r < -1 ∨ 1000000000000000 < r
          · have HE : Hid (R = 1) := hide (by rw [HVT6.out, HBAD.out (by rw [HBV.out, decide_eq_true hr, Bool.or_true])])
            have HO2 := hide (fun (W : World) => out_yes hr W)
            clear hp hr hbd
            go_wp2_with fail
            with_reducible refine (HO1.out _).mono ?_
            rintro e w' ⟨rfl, rfl⟩
            go_wp2_with fail
            with_reducible refine (HO2.out _).mono ?_
            rintro e w' ⟨rfl, rfl⟩
            go_wp2_with fail
            go_ret
            exact ⟨ret_int HE.out.symm, Ext.trans EW3.out E5.out⟩
          have HO2 := hide (fun (W : World) => out_no (n := r) (lo := -1) (hi := 1000000000000000) (by omega) W)
          have HB2 := hide (HNX.out (by rw [HBV.out, decide_eq_false hp, decide_eq_false hr]; rfl))
          have hp2 : 1 ≤ p ∧ p ≤ 1000000000000000 := by omega
          have j9 : IntKind.i64.wrap (S + p) = S + p := by rw [IntKind.wrap_i64]; omega
          have hsl : S ≤ 50000000000000000 := by omega
          have hs0 := hbd.1
          clear hp hr hbd HBAD HNX HBV
          go_wp2_with fail
          with_reducible refine (HO1.out _).mono ?_
          rintro e w' ⟨rfl, rfl⟩
          go_wp2_with fail
          with_reducible refine (HO2.out _).mono ?_
          rintro e w' ⟨rfl, rfl⟩
          go_wp2_with fail
          exact ⟨⟨q + 1, by omega, by go_num, int_val HSU.out.symm, HB2, E5⟩, by simp [intOf]; omega⟩
        · obtain rfl : q = en := by omega
          have HTK : Hid (xe.take q = xe) := hide (by rw [← HEL.out, List.take_length])
          have HE := hide (edF_good (l := xe) (fun k hk => HB.out k (by have := HEL.out; omega)))
          rw [← HTK.out] at HE
          have HE2 : Hid (R = if 1000000000000000 < sumE (xe.take q) then 1 else 0) := hide (by rw [HVT6.out, ← HE.out, HTK.out])
          clear HE HTK
          generalize sumE (xe.take q) = S at *
          have EWL := hide (Ext.trans EW3.out HY.out)
          by_cases hS : 1000000000000000 < S
          · have HE : Hid (R = 1) := hide (by rw [HE2.out, if_pos hS])
            clear hql
            go_wp2_with fail
            go_ret
            exact ⟨ret_int HE.out.symm, EWL.out⟩
          · have HE : Hid (R = 0) := hide (by rw [HE2.out, if_neg hS])
            clear hql
            go_wp2_with fail
            go_ret
            exact ⟨ret_int HE.out.symm, EWL.out⟩
def nmF (l : List TrkT) : Prop := ∀ i, i < l.length → (l.getD i default).name.length ≤ maxLen
set_option linter.unusedVariables false in
set_option maxRecDepth 100000 in
set_option maxHeartbeats 8000000 in
theorem checkFilm_any {sc : Int} {A : Option Addr} {n c : Nat} {hs : List TrkH} {l : List TrkT} {w : World} (h : TksAt w A n c hs l) (hn : nmF l) :
    Calls Try.prog 20 #[.agg #[.int .i64 sc, .slice A n c]] w fun e w' => e = .returned (.int .i64 (filF sc l)) ∧ Ext w w' := by
  have HVT : Hid (filF sc l = if badSc sc = true then 1 else if 8 < n then 2 else firstF (fun i => trF (l.getD i default) (l.take i)) n) := hide (by unfold filF; rw [h.len])
  have HNS := hide (fun (W : World) => noScale_any sc W)
  have HTF : Hid (∀ (W : World) (i : Nat), Ext w W → i < n → Calls Try.prog 46 #[.agg #[.string ⟨(l.getD i default).name.toArray⟩, .int .i64 (l.getD i default).scale, .slice (hs.getD i default).sA (hs.getD i default).sn (hs.getD i default).sc, .slice (hs.getD i default).eA (hs.getD i default).en (hs.getD i default).ec], .slice A i c] W fun e w' => e = .returned (.int .i64 (trF (l.getD i default) (l.take i))) ∧ Ext W w') :=
    hide (fun W i hW hi => trackFault_any ((h.ok i hi).ext hW) ((h.ext hW).upto (by omega)) (hn i (by rw [h.len]; exact hi)))
  have HAT := hide h.at_
  have HOK := hide h.ok
  have hnb := h.at_.bound
  have hle := h.at_.le
  have X0 := hide (Blk.new w 24 #[.int .i64 sc, .slice A n c])
  have E0 := hide (Ext.alloc w (.cells #[.int .i64 sc, .slice A n c] 24))
  clear h hn
  generalize filF sc l = R at *
  go_enter Try.func20, Try.ntmps20
  go_upto_region 1 with (fail)
  refine gen_wpC fun w0 h0 => ?_
  rw [← h0] at X0 E0
  obtain ⟨xb, hxb⟩ : ∃ xb, xb = w.heap.size := ⟨_, rfl⟩
  rw [← hxb] at X0 ⊢
  clear h0 hxb
  have x0 : w0.cell? ⟨xb, 0, none⟩ = some (.int .i64 sc) := X0.out.cell 0
  have x1 : w0.cell? ⟨xb, 1, none⟩ = some (.slice A n c) := X0.out.cell 1
  cases hsc : badSc sc with
  | true =>
    have HE : Hid (R = 1) := hide (by rw [HVT.out, if_pos hsc])
    rw [hsc] at HNS
    clear hsc
    go_wp2_with fail
    with_reducible refine (HNS.out _).mono ?_
    rintro e w' ⟨rfl, rfl⟩
    go_wp2_with fail
    go_ret
    exact ⟨ret_int HE.out.symm, E0.out⟩
  | false =>
  have HVT2 : Hid (R = if 8 < n then 2 else firstF (fun i => trF (l.getD i default) (l.take i)) n) := hide (by rw [HVT.out, if_neg (by simp [hsc])])
  rw [hsc] at HNS
  clear hsc HVT
  by_cases h8 : 8 < n
  · have HE : Hid (R = 2) := hide (by rw [HVT2.out, if_pos h8])
    have g1 : (8 : Int) < (n : Int) := by omega
    clear h8
    go_wp2_with fail
    with_reducible refine (HNS.out _).mono ?_
    rintro e w' ⟨rfl, rfl⟩
    go_wp2_with fail
    go_ret
    exact ⟨ret_int HE.out.symm, E0.out⟩
  have HVT3 : Hid (R = firstF (fun i => trF (l.getD i default) (l.take i)) n) := hide (by rw [HVT2.out, if_neg h8])
  have g1 : ¬ (8 : Int) < (n : Int) := by omega
  clear HVT2 h8
  go_wp2_with fail
  with_reducible refine (HNS.out _).mono ?_
  rintro e w' ⟨rfl, rfl⟩
  go_wp2_with fail
  clear x0 HNS g1
  go_loopw [18] (fun ri wr => ∃ k : Nat, k ≤ n ∧ ri = .int .i64 k ∧ Hid (∀ j, j < k → trF (l.getD j default) (l.take j) = 0) ∧ Hid (Ext w0 wr)) (fun ri _ => n - (intOf ri).toNat)
  case atStart => exact ⟨0, by omega, rfl, hide (fun j hj => absurd hj (Nat.not_lt_zero _)), hide (Ext.refl _)⟩
  case round =>
    clear x1
    obtain ⟨k, hk, rfl, HA, HX⟩ := hrel
    by_cases hlt : k < n
    · obtain ⟨b, o, rfl, _⟩ := HAT.out.addr (by omega)
      have EX := Ext.trans E0.out HX.out
      have hat := HAT.out.ext EX
      have hok := HOK.out k hlt
      have HTK := hide (fun (W : World) (hW : Ext w W) => HTF.out W k hW hlt)
      have HFI : Hid (trF (l.getD k default) (l.take k) ≠ 0 → firstF (fun i => trF (l.getD i default) (l.take i)) n = trF (l.getD k default) (l.take k)) := hide (fun hb => firstF_at (g := fun i => trF (l.getD i default) (l.take i)) (i := k) (fun j hj => HA.out j hj) hb hlt)
      have HNX : Hid (trF (l.getD k default) (l.take k) = 0 → ∀ j, j < k + 1 → trF (l.getD j default) (l.take j) = 0) := hide (fun hb j hj => by
        rcases Nat.lt_succ_iff_lt_or_eq.1 hj with h | h
        · exact HA.out j h
        · rw [h]; exact hb)
      obtain ⟨z, hz⟩ : ∃ z, hs.getD k default = z := ⟨_, rfl⟩
      rw [hz] at hok HTK
      have a0 : wr.cell? ⟨b, o + k * 4, none⟩ = some (.string ⟨z.name.toArray⟩) := hat.cellK hlt default 0 _ (by rw [hz]; rfl)
      have a1 : wr.cell? ⟨b, o + k * 4 + 1, none⟩ = some (.int .i64 z.scale) := hat.cellK hlt default 1 _ (by rw [hz]; rfl)
      have a2 : wr.cell? ⟨b, o + k * 4 + 2, none⟩ = some (.slice z.sA z.sn z.sc) := hat.cellK hlt default 2 _ (by rw [hz]; rfl)
      have a3 : wr.cell? ⟨b, o + k * 4 + 3, none⟩ = some (.slice z.eA z.en z.ec) := hat.cellK hlt default 3 _ (by rw [hz]; rfl)
      rw [hok.1] at a0
      rw [hok.2.1] at a1
      generalize trF (l.getD k default) (l.take k) = F at *
      generalize (l.getD k default).name = xn at *
      generalize (l.getD k default).scale = xs at *
      have x1 : wr.cell? ⟨xb, 1, none⟩ = some (.slice (some ⟨b, o, none⟩) n c) := HX.out.cell (X0.out.cell 1)
      have i1 : (k : Int) < (n : Int) := by omega
      have i0 : (0 : Int) ≤ (k : Int) := by omega
      clear hat hok hz EX
      go_upto_region 8 with (fail)
      refine gen_wpC fun w5 h5 => ?_
      obtain ⟨tb, htb⟩ : ∃ tb, tb = wr.heap.size := ⟨_, rfl⟩
      rw [← htb]
      have E5 : Hid (Ext w0 w5) := hide (by rw [h5]; exact Ext.trans HX.out (Ext.alloc _ _))
      have X5 : Hid (Blk w5 tb 47 #[.string ⟨xn.toArray⟩, .int .i64 xs, .slice z.sA z.sn z.sc, .slice z.eA z.en z.ec]) := hide (by rw [h5, htb]; exact Blk.new _ _ _)
      clear h5 htb a0 a1 a2 a3 x1
      have x1 : w5.cell? ⟨xb, 1, none⟩ = some (.slice (some ⟨b, o, none⟩) n c) := E5.out.cell (X0.out.cell 1)
      have y0 : w5.cell? ⟨tb, 0, none⟩ = some (.string ⟨xn.toArray⟩) := X5.out.cell 0
      have y1 : w5.cell? ⟨tb, 1, none⟩ = some (.int .i64 xs) := X5.out.cell 1
      have y2 : w5.cell? ⟨tb, 2, none⟩ = some (.slice z.sA z.sn z.sc) := X5.out.cell 2
      have y3 : w5.cell? ⟨tb, 3, none⟩ = some (.slice z.eA z.en z.ec) := X5.out.cell 3
      have i9 : (k : Int) ≤ (c : Int) := by omega
      have E5d := hide (Ext.trans E0.out (Ext.trans E5.out (Ext.drew w5)))
      go_still_tail 5, (by kernel_rfl)
      change wpList _ _ _ _ _ w5.drew
      go_wp2_with fail
      with_reducible refine (HTK.out _ E5d.out).mono ?_
      rintro e w6 ⟨rfl, e6⟩
      have E6 := hide (Ext.trans (Ext.trans E5.out (Ext.drew w5)) e6)
      clear e6 x1 y0 y1 y2 y3
      by_cases hF : F = 0
      · have HA2 := hide (HNX.out hF)
        subst hF
        go_wp2_with fail
        exact ⟨⟨k + 1, by omega, by go_num, HA2, E6⟩, by simp [intOf]; omega⟩
      · have HE : Hid (R = F) := hide (by rw [HVT3.out]; exact HFI.out hF)
        have d0 : (F != 0) = true := by simp [hF]
        clear hF
        go_wp2_with fail
        go_ret
        exact ⟨ret_int HE.out.symm, Ext.trans E0.out E6.out⟩
    · obtain rfl : k = n := by omega
      have HE : Hid (R = 0) := hide (by rw [HVT3.out]; exact firstF_zero HA.out)
      clear hlt
      go_wp2_with fail
      go_ret
      exact ⟨ret_int HE.out.symm, Ext.trans E0.out HX.out⟩
end Go.Proofs.Ytkbmgakehlmcnaa
