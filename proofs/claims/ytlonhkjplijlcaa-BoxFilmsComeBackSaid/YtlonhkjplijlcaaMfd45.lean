/- Walk: read (the program's reader of films). Conditions as stated. -/
import Derived.Test.YtlonhkjplijlcaaMfd30
import Derived.Test.YtlonhkjplijlcaaMfd44
namespace Go.Proofs.Ytlonhkjplijlcaa
open Go.RowKit
set_option linter.unusedVariables false in
set_option linter.unusedSimpArgs false in
set_option maxRecDepth 100000 in
set_option maxHeartbeats 16000000 in
theorem read_any {w : World} {rb : Nat} {b : List UInt8} {A : Option Addr} {n c : Nat} {l : List NodeT} (hB : Blk w rb 66 (frC 0 (.slice none 0 0) (.slice none 0 0) 0)) (hl : NdsAt w b (fun k => k < rb) A n c l) (hb : b.length ≤ 1000000) (hks : ∀ x ∈ l, x.kids.length ≤ 1000000) :
    Calls Try.prog 29 #[.pointer (some ⟨rb, 0, none⟩), .slice A n c, .int .i64 (b.length : Int)] w (ReG w rb (topR b l)) := by
  obtain ⟨ns, hns⟩ := nds_open hl
  have HN0 := hide hns
  have hln := hns.len
  have hbd := hns.at_.bound
  have hrb := hB.lt
  have HBL := hide hb
  have HKS := hide (fun (k : Nat) (hk : k < l.length) => (by rw [List.getD_eq_getElem?_getD, List.getElem?_eq_getElem hk]; exact hks _ (List.getElem_mem hk) : (l.getD k dN).kids.length ≤ 1000000))
  have I0 : Hid (TpI w w rb b l 0 none) := hide ⟨rfl, KpK.ofExt (Ext.refl _), Below.refl _ _, _, _, _, _, RdI.new hB⟩
  clear hl hns hB hks
  go_enter Try.func29, Try.ntmps29
  go_wp2_with fail
  go_loopw [7, 14] (fun r7 ri wr => ∃ (k : Nat) (f : Option (Int × List TrR)), k ≤ n ∧ ri = .int .i64 (k : Int) ∧ r7 = .bool f.isSome ∧ Hid (TpI w wr rb b l k f)) (fun _ ri _ => n - (intOf ri).toNat)
  case atStart => exact ⟨0, none, by omega, rfl, rfl, I0⟩
  case round =>
    clear I0
    obtain ⟨k, f, hk, rfl, rfl, HI⟩ := hrel
    obtain ⟨wl, hwl⟩ : ∃ wl, wl = wr := ⟨_, rfl⟩
    subst hwl
    obtain ⟨tv, bv, hs, ts, hrd⟩ := HI.out.rd
    have RD := hide hrd
    clear hrd
    by_cases hlt : k < n
    · have HNO := hide (HN0.out.below HI.out.low)
      obtain ⟨bA, oA, rfl, _⟩ := HNO.out.at_.addr (by omega)
      obtain ⟨x, hx⟩ : ∃ x, l.getD k dN = x := ⟨_, rfl⟩
      obtain ⟨y, hy⟩ : ∃ y, ns.getD k default = y := ⟨_, rfl⟩
      have hd := HNO.out.hd k hlt
      rw [hx, hy] at hd
      have HX := hide hx
      have HKL := hide (HKS.out k (by omega))
      have hat := HNO.out.at_
      obtain ⟨⟨yk, yf, dA, dn, dc, kA, kn, kc⟩, yg, yd, ye, nA, nn, nc⟩ := y
      have a0 : wl.cell? ⟨bA, oA + k * 8, none⟩ = some (.string ⟨yk.toArray⟩) := hat.cellK hlt default 0 _ (by rw [hy]; rfl)
      have a1 : wl.cell? ⟨bA, oA + k * 8 + 1, none⟩ = some (.int .i64 yf) := hat.cellK hlt default 1 _ (by rw [hy]; rfl)
      have a2 : wl.cell? ⟨bA, oA + k * 8 + 2, none⟩ = some (.slice dA dn dc) := hat.cellK hlt default 2 _ (by rw [hy]; rfl)
      have a3 : wl.cell? ⟨bA, oA + k * 8 + 3, none⟩ = some (.slice kA kn kc) := hat.cellK hlt default 3 _ (by rw [hy]; rfl)
      have a4 : wl.cell? ⟨bA, oA + k * 8 + 4, none⟩ = some (.int .i64 (yg : Int)) := hat.cellK hlt default 4 _ (by rw [hy]; rfl)
      have a5 : wl.cell? ⟨bA, oA + k * 8 + 5, none⟩ = some (.int .i64 (yd : Int)) := hat.cellK hlt default 5 _ (by rw [hy]; rfl)
      have a6 : wl.cell? ⟨bA, oA + k * 8 + 6, none⟩ = some (.int .i64 (ye : Int)) := hat.cellK hlt default 6 _ (by rw [hy]; rfl)
      have a7 : wl.cell? ⟨bA, oA + k * 8 + 7, none⟩ = some (.slice nA nn nc) := hat.cellK hlt default 7 _ (by rw [hy]; rfl)
      have HYK : Hid (yk = x.kind) := hide hd.kind
      have HYG : Hid (yg = x.beg) := hide hd.beg
      have hkd : NdsAt wl b (fun k => k < rb) nA nn nc x.kids := hd.kids
      obtain ⟨ks, hks⟩ := nds_open hkd
      have HK0 := hide hks
      have hkl := hks.len
      have hkb := hks.at_.bound
      have i1 : (k : Int) < (n : Int) := by omega
      have i0 : (0 : Int) ≤ (k : Int) := by omega
      have HLT := hide hlt
      clear hat hd hy hks hkd hx
      go_upto_region 5 with (fail)
      refine gen_wpC fun w2 h2 => ?_
      obtain ⟨nb, hnb⟩ : ∃ nb, nb = wl.heap.size := ⟨_, rfl⟩
      rw [← hnb]
      have E2 : Hid (Ext wl w2) := hide (by rw [h2]; exact Ext.alloc _ _)
      have X2 : Hid (Blk w2 nb 109 #[.string ⟨yk.toArray⟩, .int .i64 yf, .slice dA dn dc, .slice kA kn kc, .int .i64 (yg : Int), .int .i64 (yd : Int), .int .i64 (ye : Int), .slice nA nn nc]) := hide (by rw [h2, hnb]; exact Blk.new _ _ _)
      have LO2 : Hid (Below rb w w2) := hide (Below.chain HI.out.low (Below.ofExt E2.out (Nat.le_of_lt RD.out.blk.lt)))
      have KP2 : Hid (KpK w w2) := hide (KpK.chain HI.out.kp (KpK.ofExt E2.out))
      have R2 := hide (RD.out.ext E2.out)
      have x0 : w2.cell? ⟨nb, 0, none⟩ = some (.string ⟨yk.toArray⟩) := X2.out.cell 0
      have x4 : w2.cell? ⟨nb, 4, none⟩ = some (.int .i64 (yg : Int)) := X2.out.cell 4
      have x7 : w2.cell? ⟨nb, 7, none⟩ = some (.slice nA nn nc) := X2.out.cell 7
      clear h2 hnb a0 a1 a2 a3 a4 a5 a6 a7
      by_cases hkf : yk = kFilm
      · subst hkf
        cases f with
        | some g =>
          have HE := hide (topR_bad (topK_two HI.out.top (by omega) (by rw [HX.out]; exact HYK.out.symm)) (by omega))
          rw [HX.out, ← HYG.out] at HE
          have HW := hide (wrong_any (a := (yg : Int)) R2.out.blk)
          go_wp2_with ((go_at_call 54; with_reducible refine HW.out.mono ?_); rintro e w' ⟨rfl, p1, p2⟩; have HB1 := hide p1; have HT1 := hide p2; clear p1 p2)
          go_ret
          exact ReG.bad HE.out (KpK.chain KP2.out (KpK.ofTw R2.out.blk HT1.out)) (Below.chain LO2.out (Below.ofTw HT1.out (Nat.le_of_lt R2.out.blk.lt) (Nat.le_refl _))) HB1.out
        | none =>
          have HTF := hide (topK_film HI.out.top (by omega) (by rw [HX.out]; exact HYK.out.symm))
          rw [HX.out] at HTF
          have HK2 := hide (HK0.out.below (Below.ofExt E2.out (Nat.le_of_lt RD.out.blk.lt)))
          have HHAS := hide (has_any 0 0 rfl kHead b.length R2.out.blk HK2.out)
          cases hkr : kidR x.kids 0 kHead b.length with
          | bad a' =>
            have HE : Hid (topR b l = .bad a') := hide (topR_bad (k := k + 1) (by rw [HTF.out, filR_kid hkr]; rfl) (by omega))
            rw [hkr] at HHAS
            clear hkr
            go_wp2_with ((go_at_call 55; with_reducible refine HHAS.out.mono ?_); rintro e w' hh; obtain ⟨rfl, p1, p2⟩ := hh.2 _ rfl; have HB1 := hide p1; have HT1 := hide p2; clear p1 p2 hh)
            go_ret
            exact ReG.bad HE.out (KpK.chain KP2.out (KpK.ofTw R2.out.blk HT1.out)) (Below.chain LO2.out (Below.ofTw HT1.out (Nat.le_of_lt R2.out.blk.lt) (Nat.le_refl _))) HB1.out
          | ok z =>
            obtain ⟨kl, kz, kk⟩ := kidR_ok hkr
            have HKR := hide hkr
            rw [hkr] at HHAS
            obtain ⟨bK, oK, rfl, _⟩ := HK2.out.at_.addr (by omega)
            have hd := HK2.out.hd 0 (by omega)
            have hat := HK2.out.at_
            have hda := hd.data
            rw [data_boxOf (by rw [kz, kk]; rfl)] at hda
            obtain ⟨yz, hyz⟩ : ∃ yz, ks.getD 0 default = yz := ⟨_, rfl⟩
            rw [hyz] at hd hda
            rw [kz] at hda
            have c2 : w2.cell? ⟨bK, oK + 2, none⟩ = some (.slice yz.box.dA yz.box.dn yz.box.dc) := by simpa using hat.cellK (k := 0) (by omega) default 2 _ (by rw [hyz]; rfl)
            have c4 : w2.cell? ⟨bK, oK + 4, none⟩ = some (.int .i64 (z.beg : Int)) := by have := hat.cellK (k := 0) (by omega) default 4 _ (by rw [hyz]; rfl); rw [hd.beg, kz] at this; simpa using this
            have hynn : 0 < nn := by omega
            obtain ⟨C, hC⟩ : ∃ C, ctB b z = C := ⟨_, rfl⟩
            rw [hC] at hda
            have HC := hide hC
            have HDA := hide hda
            have hlc := hda.len
            have hlm := hda.bound
            clear hkr hd hat kl hyz kz kk hda hC
            by_cases h4 : yz.box.dn = 4
            · have hda := HDA.out
              rw [h4] at c2 hda
              have HNB := hide (numberOf_any hda (by omega))
              clear hda
              have hn2 : numB C < 4294967296 := numB_lt 4 C (by omega)
              have hw : IntKind.i64.wrap ((numB C : Nat) : Int) = ((numB C : Nat) : Int) := by rw [IntKind.wrap_i64]; omega
              have q0 : w2.cell? ⟨rb, 0, none⟩ = some (.int .i64 (scF none)) := R2.out.blk.cell 0
              have qf := R2.out.blk.frozen 0
              have HFR : Hid (filR b x = (trksK b x.kids (x.kids.length - 1)).then fun r => .ok ((numB C : Int), r)) := hide (by rw [filR_more HKR.out (by rw [HC.out]; omega), HC.out])
              have J0 : Hid (TsI w2 (w2.setCell ⟨rb, 0, none⟩ (.int .i64 (numB C : Int))) rb (numB C : Int) b x.kids 0 []) := hide (by
                have hT := Tw.set_ w2 rb 0 (.int .i64 (numB C : Int)) none
                exact ⟨rfl, KpK.ofTw R2.out.blk hT, Below.ofTw hT (Nat.le_of_lt R2.out.blk.lt) (Nat.le_refl _), _, _, _, _, R2.out.tw hT (R2.out.blk.set_ 0 _)⟩)
              go_wp2_with (first | ((go_at_call 55; with_reducible refine HHAS.out.mono ?_); rintro e w' hh; obtain ⟨rfl, rfl⟩ := hh.1 _ rfl; clear hh) | ((go_at_call 56; with_reducible refine HNB.out.mono ?_); rintro e w' ⟨rfl, rfl⟩))
              go_loopw [11] (fun ri wx => ∃ (q : Nat) (r : List TrR), ri = .int .i64 ((q : Int) + 1) ∧ q + 1 ≤ nn ∧ Hid (TsI w2 wx rb (numB C : Int) b x.kids q r)) (fun ri _ => nn - (intOf ri).toNat)
              case atStart => exact ⟨0, [], by simp, by omega, J0⟩
              case round =>
                clear J0 q0 qf
                obtain ⟨q, r, rfl, hq, HT⟩ := hrel
                obtain ⟨tv1, bv1, hs1, ts1, hrd1⟩ := HT.out.rd
                have RT := hide hrd1
                clear hrd1
                have y7 : wr.cell? ⟨nb, 7, none⟩ = some (.slice (some ⟨bK, oK, none⟩) nn nc) := (HT.out.kp _ _ (by decide) (by decide) (by decide) _ X2.out).cell 7
                have KPX : Hid (KpK w wr) := hide (KpK.chain KP2.out HT.out.kp)
                have LOX : Hid (Below rb w wr) := hide (Below.chain LO2.out HT.out.low)
                have hrl := trksK_len HT.out.top (by omega)
                by_cases hlt2 : q + 1 < nn
                · have HKX := hide (HK2.out.below HT.out.low)
                  have HHX := hide (has_any (q + 1) ((q : Int) + 1) (by omega) kTrck b.length RT.out.blk HKX.out)
                  have j1 : (q : Int) + 1 < (nn : Int) := by omega
                  have j0 : (0 : Int) ≤ (q : Int) + 1 := by omega
                  have jt : ((q : Int) + 1).toNat = q + 1 := by omega
                  have j8 : IntKind.i64.wrap ((q : Int) + 1 + 1) = (q : Int) + 1 + 1 := by rw [IntKind.wrap_i64]; omega
                  by_cases hk2 : (x.kids.getD (q + 1) dN).kind = kTrck
                  · rw [kidR_good (by omega) hk2] at HHX
                    have HTS := hide (trksK_trk HT.out.top (by omega) hk2)
                    obtain ⟨xk, hxk⟩ : ∃ xk, x.kids.getD (q + 1) dN = xk := ⟨_, rfl⟩
                    obtain ⟨yk2, hyk2⟩ : ∃ y, ks.getD (q + 1) default = y := ⟨_, rfl⟩
                    have hd2 := HKX.out.hd (q + 1) hlt2
                    rw [hxk] at HTS HHX
                    rw [hxk, hyk2] at hd2
                    have hat := HKX.out.at_
                    obtain ⟨⟨zk, zf, zdA, zdn, zdc, zkA, zkn, zkc⟩, zg, zd, ze, znA, znn, znc⟩ := yk2
                    have b0 : wr.cell? ⟨bK, oK + (q + 1) * 8, none⟩ = some (.string ⟨zk.toArray⟩) := hat.cellK hlt2 default 0 _ (by rw [hyk2]; rfl)
                    have b1 : wr.cell? ⟨bK, oK + (q + 1) * 8 + 1, none⟩ = some (.int .i64 zf) := hat.cellK hlt2 default 1 _ (by rw [hyk2]; rfl)
                    have b2 : wr.cell? ⟨bK, oK + (q + 1) * 8 + 2, none⟩ = some (.slice zdA zdn zdc) := hat.cellK hlt2 default 2 _ (by rw [hyk2]; rfl)
                    have b3 : wr.cell? ⟨bK, oK + (q + 1) * 8 + 3, none⟩ = some (.slice zkA zkn zkc) := hat.cellK hlt2 default 3 _ (by rw [hyk2]; rfl)
                    have b4 : wr.cell? ⟨bK, oK + (q + 1) * 8 + 4, none⟩ = some (.int .i64 (zg : Int)) := hat.cellK hlt2 default 4 _ (by rw [hyk2]; rfl)
                    have b5 : wr.cell? ⟨bK, oK + (q + 1) * 8 + 5, none⟩ = some (.int .i64 (zd : Int)) := hat.cellK hlt2 default 5 _ (by rw [hyk2]; rfl)
                    have b6 : wr.cell? ⟨bK, oK + (q + 1) * 8 + 6, none⟩ = some (.int .i64 (ze : Int)) := hat.cellK hlt2 default 6 _ (by rw [hyk2]; rfl)
                    have b7 : wr.cell? ⟨bK, oK + (q + 1) * 8 + 7, none⟩ = some (.slice znA znn znc) := hat.cellK hlt2 default 7 _ (by rw [hyk2]; rfl)
                    have HTK := hide (track_any RT.out hd2 (by rw [List.length_map]; have := HKL.out; rw [HX.out] at this; omega) (by rw [List.length_map]; have := HKL.out; rw [HX.out] at this; omega) HBL.out)
                    clear hd2 hat hyk2 hk2
                    cases htr : trkR b xk with
                    | bad a' =>
                      have HE : Hid (topR b l = .bad a') := hide (topR_bad (k := k + 1) (by rw [HTF.out, HFR.out, trksK_bad (by rw [HTS.out, htr]; rfl) _ (show q + 1 ≤ x.kids.length - 1 by omega)]; rfl) (by omega))
                      rw [htr] at HTK
                      clear htr
                      go_wp2_with (first | ((go_at_call 55; refine HHX.out.mono ?_); rintro e w' hh; obtain ⟨rfl, rfl⟩ := hh.1 _ rfl; clear hh) | ((go_at_call 57; with_reducible refine HTK.out.mono ?_); rintro e w' ⟨g1, g2, _, g4⟩; obtain ⟨rfl, tv2, bv2, g5⟩ := g4 _ rfl; have G1 := hide g1; have G2 := hide g2; have G5 := hide g5; clear g1 g2 g4 g5))
                      go_ret
                      exact ReG.bad HE.out (KpK.chain KPX.out G1.out) (Below.chain LOX.out G2.out) G5.out
                    | ok t =>
                      rw [htr] at HTK
                      have HTS2 : Hid (trksK b x.kids (q + 1) = .ok (r ++ [t])) := hide (by rw [HTS.out, htr]; rfl)
                      clear htr
                      go_wp2_with (first | ((go_at_call 55; refine HHX.out.mono ?_); rintro e w' hh; obtain ⟨rfl, rfl⟩ := hh.1 _ rfl; clear hh) | ((go_at_call 57; with_reducible refine HTK.out.mono ?_); rintro e w' ⟨g1, g2, g3, _⟩; obtain ⟨rfl, tv2, bv2, y2, z2, g5⟩ := g3 _ rfl; have G1 := hide g1; have G2 := hide g2; have G5 := hide g5; clear g1 g2 g3 g5))
                      go_roundw
                      case measure => simp [intOf]; omega
                      first | (refine (?_ : ∃ (_ : Nat), _)) | ((repeat apply Exists.intro); refine ⟨?_, rfl⟩)
                      exact ⟨q + 1, r ++ [t], by go_num, by omega, hide ⟨HTS2.out, KpK.chain HT.out.kp G1.out, Below.chain HT.out.low G2.out, _, _, _, _, by rw [List.map_append, List.map_append]; exact G5.out⟩⟩
                  · have HE : Hid (topR b l = .bad (x.kids.getD (q + 1) dN).beg) := hide (topR_bad (k := k + 1) (by rw [HTF.out, HFR.out, trksK_bad (trksK_kind HT.out.top (by omega) hk2) _ (show q + 1 ≤ x.kids.length - 1 by omega)]; rfl) (by omega))
                    rw [kidR_bad (by omega) hk2] at HHX
                    generalize (x.kids.getD (q + 1) dN).beg = bg at *
                    clear hk2
                    go_wp2_with ((go_at_call 55; refine HHX.out.mono ?_); rintro e w' hh; obtain ⟨rfl, p1, p2⟩ := hh.2 _ rfl; have HB1 := hide p1; have HT1 := hide p2; clear p1 p2 hh)
                    go_ret
                    exact ReG.bad HE.out (KpK.chain KPX.out (KpK.ofTw RT.out.blk HT1.out)) (Below.chain LOX.out (Below.ofTw HT1.out (Nat.le_of_lt RT.out.blk.lt) (Nat.le_refl _))) HB1.out
                · have hqn : q = x.kids.length - 1 := by omega
                  have HTP : Hid (topK b l (k + 1) = .ok (some ((numB C : Int), r))) := hide (by rw [HTF.out, HFR.out, ← hqn, HT.out.top]; rfl)
                  have j1 : ¬ (q : Int) + 1 < (nn : Int) := by omega
                  clear hqn
                  go_wp2_with fail
                  go_roundw
                  case measure => simp [intOf]; omega
                  first | (refine (?_ : ∃ (_ : Nat), _)) | ((repeat apply Exists.intro); refine ⟨?_, rfl⟩)
                  exact ⟨k + 1, some ((numB C : Int), r), by omega, by go_num, rfl, hide ⟨HTP.out, KPX.out, LOX.out, _, _, _, _, RT.out⟩⟩
            · have HE : Hid (topR b l = .bad z.beg) := hide (topR_bad (k := k + 1) (by rw [HTF.out, filR_len HKR.out (by rw [HC.out]; omega)]; rfl) (by omega))
              have HW := hide (wrong_any (a := (z.beg : Int)) R2.out.blk)
              have hne : ((yz.box.dn : Int) ≠ 4) := by omega
              go_wp2_with (first | ((go_at_call 55; with_reducible refine HHAS.out.mono ?_); rintro e w' hh; obtain ⟨rfl, rfl⟩ := hh.1 _ rfl; clear hh) | ((go_at_call 54; with_reducible refine HW.out.mono ?_); rintro e w' ⟨rfl, p1, p2⟩; have HB1 := hide p1; have HT1 := hide p2; clear p1 p2))
              go_ret
              exact ReG.bad HE.out (KpK.chain KP2.out (KpK.ofTw R2.out.blk HT1.out)) (Below.chain LO2.out (Below.ofTw HT1.out (Nat.le_of_lt R2.out.blk.lt) (Nat.le_refl _))) HB1.out
      · have hne : (yk == [102, 105, 108, 109]) = false := by simpa using (show ¬ yk = [102, 105, 108, 109] from hkf)
        have HTP := hide (topK_skip HI.out.top (by omega) (by rw [HX.out, ← HYK.out]; exact hkf))
        go_wp2_with fail
        go_roundw
        case measure => simp [intOf]; omega
        first | (refine (?_ : ∃ (_ : Nat), _)) | ((repeat apply Exists.intro); refine ⟨?_, rfl⟩)
        exact ⟨k + 1, f, by omega, by go_num, rfl, hide ⟨HTP.out, KP2.out, LO2.out, _, _, _, _, R2.out⟩⟩
    · obtain rfl : k = n := by omega
      cases f with
      | some g =>
        have HE : Hid (topR b l = .ok g) := hide (by unfold topR; rw [hln, HI.out.top]; rfl)
        go_wp2_with fail
        go_ret
        refine ⟨HI.out.kp, HI.out.low, fun sc l' hx => ⟨rfl, ?_⟩, fun a ha => by rw [HE.out] at ha; cases ha⟩
        rw [HE.out] at hx
        cases hx
        exact ⟨_, _, _, _, RD.out⟩
      | none =>
        have HE : Hid (topR b l = .bad b.length) := hide (by unfold topR; rw [hln, HI.out.top]; rfl)
        have HW := hide (wrong_any (a := (b.length : Int)) RD.out.blk)
        go_wp2_with ((go_at_call 54; with_reducible refine HW.out.mono ?_); rintro e w' ⟨rfl, p1, p2⟩; have HB1 := hide p1; have HT1 := hide p2; clear p1 p2)
        go_ret
        exact ReG.bad HE.out (KpK.chain HI.out.kp (KpK.ofTw RD.out.blk HT1.out)) (Below.chain HI.out.low (Below.ofTw HT1.out (Nat.le_of_lt RD.out.blk.lt) (Nat.le_refl _))) HB1.out
end Go.Proofs.Ytlonhkjplijlcaa
