/- Walk: filmBox (program). Conditions as stated. Printed by fbxA.py. -/
import Derived.Test.YtkbmgakehlmcnaaMtq40
open List (setIfInBounds_toArray set_cons_zero set_cons_succ)
namespace Go.Proofs.Ytkbmgakehlmcnaa
open Go.RowKit
set_option linter.unusedVariables false in
set_option linter.unusedSimpArgs false in
set_option maxRecDepth 100000 in
set_option maxHeartbeats 16000000 in
theorem filmBox_any {sc : Int} {A : Option Addr} {n c : Nat} {hs : List TrkH} {T : List TrkT} {gp : Nat} {hp : List (Option Addr × Nat × Nat)} {pl : List (List Int)} {ov : Value} {ob : List UInt8} {ch : Nat} {wl w : World}
    (h : TksAt w A n c hs T) (hr : FilR T) (hn : nmS T) (hL : LaM wl w gp n hp pl [] ov ob) (h5 : ∀ i, (pl.getD i []).length ≤ 5000) (hc : 1 ≤ ch) (hc2 : ch ≤ 1000) :
    Calls Try.prog 24 #[.agg #[.int .i64 sc, .slice A n c], .int .i64 (ch : Int), .slice (some ⟨gp, 0, none⟩) n n] w (FbG w (kidsB sc T ch pl n)) := by
  have HT := hide h
  have HLL := hide hL
  have HTL : Hid (T.length = n) := hide h.len
  have HR := hide (fun (i : Nat) (hi : i < n) => hr.smp i (by rw [h.len]; exact hi))
  have HRE := hide (fun (i : Nat) (hi : i < n) => hr.ed i (by rw [h.len]; exact hi))
  have HNM := hide (fun (i : Nat) (hi : i < n) => hn i (by rw [h.len]; exact hi))
  have H5 := hide h5
  have hn8 : n ≤ 8 := by have := hr.few; rw [h.len] at this; exact this
  have HCH := hide (fun (u0 u1 u3 : Value) (sA : Option Addr) (sn sc_ : Nat) (hs5 : sn ≤ 5000) (W : World) => keyChunks_any (u0 := u0) (u1 := u1) (u3 := u3) (sA := sA) (sc := sc_) (w := W) hs5 hc hc2)
  have HCN := hide (fun (k : Nat) => ckN_le (n := k) hc)
  obtain ⟨i0_, hi0, hz0, hz1, hz2⟩ := info_parts Try.info66
  clear h hr hn hL h5
  go_enter Try.func24, Try.ntmps24
  go_upto_region 1 with (fail)
  refine gen_wpC fun w0 h0 => ?_
  obtain ⟨fb, hfb⟩ : ∃ fb, fb = w.heap.size := ⟨_, rfl⟩
  obtain ⟨rb, hrb⟩ : ∃ rb, rb = w.heap.size + 1 := ⟨_, rfl⟩
  have E0 : Hid (Ext w w0) := hide (by rw [h0]; exact Ext.trans (Ext.alloc _ _) (Ext.alloc _ _))
  have X0 : Hid (Blk w0 fb 24 #[.int .i64 sc, .slice A n c]) := hide (by rw [h0, hfb]; exact (Blk.new _ _ _).alloc _)
  have Z0 : Hid (w0.heap.size = w.heap.size + 2) := hide (by rw [h0]; simp)
  have R0 : Hid (Blk w0 rb 66 #[.string ByteArray.empty, .int .i64 0, .slice none 0 0, .slice none 0 0]) := hide (by rw [h0, hrb]; have := Blk.new (w.alloc (.cells #[.int .i64 sc, .slice A n c] 24)) 66 #[.string ByteArray.empty, .int .i64 0, .slice none 0 0, .slice none 0 0]; rwa [World.size_alloc] at this)
  rw [← hrb, ← hfb]
  have HRB := hide hrb
  clear h0 hfb hrb
  have x0 : w0.cell? ⟨fb, 0, none⟩ = some (.int .i64 sc) := X0.out.cell 0
  have u0 : IntKind.u64.wrap sc = ((u64N sc : Nat) : Int) := (u64N_cast sc).symm
  have HA0 := hide (appendNumberG (w := w0) (n := u64N sc) (many := 4) (z := 4) (base := w0.heap.size) (Own.nil w0 w0.heap.size 5 1 e8) (Nat.le_refl _) rfl (by omega) (u64N_lt _) (by simp))
  go_wp2_with fail
  with_reducible refine HA0.out.mono ?_
  rintro e w1 ⟨v1, rfl, o1, g1⟩
  rw [List.nil_append] at o1
  have E1 : Hid (Ext w0 w1) := hide (Own.below (Own.nil w0 w0.heap.size 5 1 e8) (Ext.refl _) g1.grown (Nat.le_refl _))
  obtain ⟨hA, hcp, rfl, B1⟩ := BtP.own (B' := w0.heap.size) o1 (Nat.le_refl _)
  have HB1 := hide B1
  clear o1 g1 HA0 x0 u0 B1
  go_upto_region 2 with (fail)
  refine gen_wpC fun w2 h2 => ?_
  obtain ⟨xb, hxb⟩ : ∃ xb, xb = w1.heap.size + 1 := ⟨_, rfl⟩
  have F2 : Hid (FbM w0 w2 xb (.slice (some ⟨w1.heap.size, 0, none⟩) 1 1) [hdB kHead hA (beN 4 (u64N sc)).length hcp] (kidsB sc T ch pl 0)) := hide (by
    have e1 := E1.out.size
    have e2 : (w1.alloc (.cells #[.string ⟨#[104, 101, 97, 100]⟩, .int .i64 0, .slice hA (beN 4 (u64N sc)).length hcp, .slice none 0 0] 66)).heap.size = xb := by rw [World.size_alloc, hxb]
    have r1 : RwO (w1.alloc (.cells #[.string ⟨#[104, 101, 97, 100]⟩, .int .i64 0, .slice hA (beN 4 (u64N sc)).length hcp, .slice none 0 0] 66)) w0.heap.size xb (.slice (some ⟨w1.heap.size, 0, none⟩) 1 1) [hdB kHead hA (beN 4 (u64N sc)).length hcp] (kidsB sc T ch pl 0) :=
      RwO.lit _ [hdB kHead hA (beN 4 (u64N sc)).length hcp] _ rfl e1 rfl (by simp) (fun k hk => by have := hk.2; omega) (by omega) (fun i y x hy hx => by
        match i, hy, hx with
        | 0, hy, hx =>
          simp at hy; subst hy
          simp [kidsB] at hx; subst hx
          exact HB1.out.leaf
        | i + 1, hy, hx => simp at hy)
    rw [h2]
    refine ⟨r1.ext (Ext.alloc _ _), ?_, by omega, Ext.trans E1.out (Ext.trans (Ext.alloc _ _) (Ext.alloc _ _))⟩
    rw [← e2]
    exact Blk.new _ _ _)
  have e3 : (w1.alloc (.cells #[.string ⟨#[104, 101, 97, 100]⟩, .int .i64 0, .slice hA (beN 4 (u64N sc)).length hcp, .slice none 0 0] 66)).heap.size = xb := by rw [World.size_alloc, hxb]
  first | rw [e3] | (simp only [World.size_alloc]; rw [← hxb]) | rw [← hxb]
  have x1 : w2.cell? ⟨fb, 1, none⟩ = some (.slice A n c) := F2.out.ext.cell (X0.out.cell 1)
  clear h2 e3 HB1 hxb
  go_wp2_with fail
  clear x1
  go_loopw [23] (fun ri wr => ∃ (i : Nat) (v : Value) (hs' : List BoxH), i ≤ n ∧ ri = .int .i64 (i : Int) ∧ Hid (FbM w0 wr xb v hs' (kidsB sc T ch pl i))) (fun ri _ => n - (intOf ri).toNat)
  case atStart => exact ⟨0, _, _, by omega, rfl, F2⟩
  case round =>
    clear F2 E1
    obtain ⟨i, v, hk, hi, rfl, HF⟩ := hrel
    obtain ⟨wh, hwh⟩ : ∃ wh, wh = wr := ⟨_, rfl⟩
    have HFH : Hid (FbM w0 wh xb v hk (kidsB sc T ch pl i)) := hide (by rw [hwh]; exact HF.out)
    by_cases hlt : i < n
    · obtain ⟨b, o, rfl, _⟩ := HT.out.at_.addr (by omega)
      have hat := HT.out.at_.ext (Ext.trans E0.out HF.out.ext)
      have hok := HT.out.ok i hlt
      have HSZ := hide (HR.out i hlt)
      have HED := hide (HRE.out i hlt)
      have HNL := hide (HNM.out i hlt)
      have HKS : Hid (kidsB sc T ch pl (i + 1) = kidsB sc T ch pl i ++ [trkB (T.getD i default) ch (pl.getD i [])]) := hide rfl
      have HTB : Hid (trkB (T.getD i default) ch (pl.getD i []) = .mk kTrck 0 [] [leafB kName (T.getD i default).name, leafB kRate (beN 4 (u64N (T.getD i default).scale)), leafB kEdit (edB (T.getD i default).ed), leafB kTabl (tabBy (cmpT (T.getD i default).smp (ckL (T.getD i default).smp.length ch) (pl.getD i [])))]) := hide rfl
      obtain ⟨z, hz⟩ : ∃ z, hs.getD i default = z := ⟨_, rfl⟩
      rw [hz] at hok
      have a0 : wr.cell? ⟨b, o + i * 4, none⟩ = some (.string ⟨z.name.toArray⟩) := hat.cellK hlt default 0 _ (by rw [hz]; rfl)
      have a1 : wr.cell? ⟨b, o + i * 4 + 1, none⟩ = some (.int .i64 z.scale) := hat.cellK hlt default 1 _ (by rw [hz]; rfl)
      have a2 : wr.cell? ⟨b, o + i * 4 + 2, none⟩ = some (.slice z.sA z.sn z.sc) := hat.cellK hlt default 2 _ (by rw [hz]; rfl)
      have a3 : wr.cell? ⟨b, o + i * 4 + 3, none⟩ = some (.slice z.eA z.en z.ec) := hat.cellK hlt default 3 _ (by rw [hz]; rfl)
      rw [hok.1] at a0
      rw [hok.2.1] at a1
      have HS := hide hok.2.2.1
      have HE := hide hok.2.2.2
      have hsl := HS.out.len
      have hel := HE.out.len
      have HPR := hide (HLL.out.rows i hlt)
      have HPC := hide (HLL.out.row hlt)
      have HPL := hide (H5.out i)
      obtain ⟨rw_, hrw⟩ : ∃ x, hp.getD i dR = x := ⟨_, rfl⟩
      obtain ⟨rA, rn, rc⟩ := rw_
      rw [hrw] at HPR HPC
      have hrn : (pl.getD i []).length = rn := HPR.out.len len_e64
      have HPA := hide (HPR.out.atS len_e64)
      have hrn5 : rn ≤ 5000 := by have := HPL.out; omega
      have HKL : Hid ((kidsB sc T ch pl i).length ≤ 9) := hide (by rw [kidsB_len]; omega)
      generalize hKS1 : kidsB sc T ch pl (i + 1) = KS1 at *
      have HKS1 := hide hKS1
      clear hKS1
      generalize kidsB sc T ch pl i = KS0 at *
      generalize trkB (T.getD i default) ch (pl.getD i []) = TB at *
      generalize pl.getD i [] = pli at *
      generalize (T.getD i default).name = xn at *
      generalize (T.getD i default).scale = xs at *
      generalize (T.getD i default).smp = sm at *
      generalize (T.getD i default).ed = xe at *
      generalize z.sA = sA at *
      generalize z.sn = sn at *
      generalize z.sc = scc at *
      generalize z.eA = eA at *
      generalize z.en = en at *
      generalize z.ec = ec at *
      have hsn : sn ≤ 5000 := by have := HSZ.out.2; omega
      have hen : en ≤ 50 := by have := HED.out; omega
      have HSL := hide hsl
      have HEL := hide hel
      have i1 : (i : Int) < (n : Int) := by omega
      have i0 : (0 : Int) ≤ (i : Int) := by omega
      clear hat hok hz hsl hel hrn hrw HPR HPL
      go_upto_region 6 with (fail)
      refine gen_wpC fun w5 h5 => ?_
      obtain ⟨tb, htb⟩ : ∃ tb, tb = wr.heap.size := ⟨_, rfl⟩
      rw [← htb]
      have F5 := hide (show FbM w0 w5 xb v hk KS0 by rw [h5]; exact HF.out.extW (Ext.alloc _ _))
      have ER : Hid (Ext wh w5) := hide (by rw [h5, hwh]; exact Ext.alloc _ _)
      have HTBW : Hid (tb = wh.heap.size) := hide (by rw [htb, hwh])
      have HGP : Hid (gp < w.heap.size) := hide (HLL.out.pls.lt gp rfl).2
      have X5 : Hid (Blk w5 tb 47 #[.string ⟨xn.toArray⟩, .int .i64 xs, .slice sA sn scc, .slice eA en ec]) := hide (by rw [h5, htb]; exact Blk.new _ _ _)
      clear h5 htb a0 a1 a2 a3
      have y3 : w5.cell? ⟨tb, 3, none⟩ = some (.slice eA en ec) := X5.out.cell 3
      have M5 : Hid (EdM w5 w5 (.slice none 0 0) (edB (xe.take 0))) := hide ⟨by simpa [edB, rnN, lsB] using Own.nil _ _ _ _ _, Ext.refl _⟩
      go_wp2_with fail
      clear y3
      go_loopw [10, 31] (fun r10 rj wx => ∃ q : Nat, q ≤ en ∧ rj = .int .i64 (q : Int) ∧ Hid (EdM w5 wx r10 (edB (xe.take q)))) (fun _ rj _ => en - (intOf rj).toNat)
      case atStart => exact ⟨0, by omega, rfl, M5⟩
      case round =>
        clear M5
        obtain ⟨q, hq, rfl, HM⟩ := hrel
        by_cases hql : q < en
        · obtain ⟨b2, o2, rfl, _⟩ := HE.out.addr (by omega)
          obtain ⟨c0, c1⟩ := (HE.out.ext (Ext.trans E0.out (Ext.trans F5.out.ext HM.out.ext))).pair hql
          have HSU : Hid (edB (xe.take (q + 1)) = edB (xe.take q) ++ beN 8 (u64N (xe.getD q (0, 0)).1) ++ beN 8 (u64N (xe.getD q (0, 0)).2)) := hide (by unfold edB; rw [rnN_take (by have := HEL.out; omega), lsB_two])
          have hlk : (edB (xe.take q)).length ≤ 100000 := by rw [edB_len, List.length_take]; omega
          generalize (xe.getD q (0, 0)).1 = p1 at *
          generalize (xe.getD q (0, 0)).2 = p2 at *
          generalize edB (xe.take q) = acc at *
          have j1 : (q : Int) < (en : Int) := by omega
          have j0 : (0 : Int) ≤ (q : Int) := by omega
          go_upto_region 9 with (fail)
          refine gen_wpC fun w6 h6 => ?_
          obtain ⟨eb, heb⟩ : ∃ eb, eb = wr.heap.size := ⟨_, rfl⟩
          rw [← heb]
          have E6 : Hid (Ext w5 w6) := hide (by rw [h6]; exact Ext.trans HM.out.ext (Ext.alloc _ _))
          have O6 : Hid (Own w6 w5.heap.size 5 1 e8 _ acc) := hide (by rw [h6]; exact HM.out.own.ext (Ext.alloc _ _))
          have X6 : Hid (Blk w6 eb 112 #[.int .i64 p1, .int .i64 p2]) := hide (by rw [h6, heb]; exact Blk.new _ _ _)
          have hlt6 := HM.out.own.lt
          have HN6 := hide (fun e => (by have := (hlt6 eb e).2; omega : False))
          clear h6 heb hlt6 c0 c1 HM
          have U1 : IntKind.u64.wrap p1 = ((u64N p1 : Nat) : Int) := (u64N_cast p1).symm
          have U2 : IntKind.u64.wrap p2 = ((u64N p2 : Nat) : Int) := (u64N_cast p2).symm
          have z0 : w6.cell? ⟨eb, 0, none⟩ = some (.int .i64 p1) := X6.out.cell 0
          have z1 : w6.cell? ⟨eb, 1, none⟩ = some (.int .i64 p2) := X6.out.cell 1
          have HA1 := hide (fun (W : World) (he : Ext w6 W) => appendNumberG (w := W) (n := u64N p1) (many := 8) (z := 8) (base := w5.heap.size) (O6.out.ext he) (Nat.le_trans E6.out.size he.size) rfl (by omega) (u64N_lt _) (by omega))
          have HA2 := hide (fun (W : World) (v7 : Value) (o7 : Own W w5.heap.size 5 1 e8 v7 (acc ++ beN 8 (u64N p1))) (hb : w5.heap.size ≤ W.heap.size) => appendNumberG (w := W) (n := u64N p2) (many := 8) (z := 8) (base := w5.heap.size) o7 hb rfl (by omega) (u64N_lt _) (by rw [List.length_append, beN_len]; omega))
          go_region_held3 (fun w' => w'.cell? ⟨eb, 0, none⟩ = some (.int .i64 p1) ∧ w'.cell? ⟨eb, 1, none⟩ = some (.int .i64 p2)) (first | go_keep | exact ⟨X7.out.cell 0, X7.out.cell 1⟩ | exact ⟨X8.out.cell 0, X8.out.cell 1⟩) (first
            | ((go_at_call 47; with_reducible refine (HA1.out _ (Ext.drew _)).mono ?_); rintro e w7 ⟨v7, rfl, o7, g7⟩; have X7 : Hid (Blk w7 eb 112 #[.int .i64 p1, .int .i64 p2]) := hide ((g7.grown.block eb (X6.out.ext (Ext.drew _)).lt (fun e => HN6.out e.symm)).trans (X6.out.ext (Ext.drew _))); have E7 : Hid (Ext w5 w7) := hide ((O6.out.ext (Ext.drew _)).below (Ext.trans E6.out (Ext.drew _)) g7.grown (Nat.le_refl _)); have N7 : Hid (v7.ownBlock ≠ some eb) := hide (by rcases g7.row with h | ⟨g, h, h2⟩; (rw [h]; exact fun e => HN6.out e); (rw [h]; intro e; injection e with e; have := (X6.out.ext (Ext.drew _)).lt; omega)); have O7 := hide o7; clear o7 g7)
            | ((go_at_call 47; with_reducible refine (HA2.out _ _ O7.out E7.out.size).mono ?_); rintro e w8 ⟨v8, rfl, o8, g8⟩; have X8 : Hid (Blk w8 eb 112 #[.int .i64 p1, .int .i64 p2]) := hide ((g8.grown.block eb X7.out.lt (fun e => N7.out e.symm)).trans X7.out); have E8 : Hid (Ext w5 w8) := hide (O7.out.below E7.out g8.grown (Nat.le_refl _)); have O8 := hide o8; clear o8 g8))
          all_goals go_wp2_with fail
          exact ⟨⟨q + 1, by omega, by go_num, hide ⟨by rw [HSU.out]; exact O8.out, E8.out⟩⟩, by simp [intOf]; omega⟩
        · obtain rfl : q = en := by omega
          have HTKE : Hid (xe.take q = xe) := hide (by rw [← HEL.out, List.take_length])
          rw [HTKE.out] at HM
          obtain ⟨w6, hw6⟩ : ∃ w6, w6 = wr := ⟨_, rfl⟩
          have E56 : Hid (Ext w5 w6) := hide (by rw [hw6]; exact HM.out.ext)
          have OE : Hid (Own w6 w5.heap.size 5 1 e8 _ (edB xe)) := hide (by rw [hw6]; exact HM.out.own)
          rw [← hw6]
          clear HM hw6 hql
          obtain ⟨eA2, ec2, heq, BE6⟩ := BtP.own (B' := wh.heap.size) OE.out ER.out.size
          have HBE := hide BE6
          subst heq
          have HW6 : Hid (Ext w w6) := hide (Ext.trans E0.out (Ext.trans F5.out.ext E56.out))
          have HEW : Hid (Ext wh w6) := hide (Ext.trans ER.out E56.out)
          have HSX : Hid (FbS xb tb gp i v (.string ⟨xn.toArray⟩) (.int .i64 xs) (.slice sA sn scc) (.slice eA q ec) (.slice rA rn rc) w6) := hide (by
            have hX := X5.out.ext E56.out
            exact ⟨(F5.out.cell.ext E56.out).cell 3, hX.cell 0, hX.cell 1, hX.cell 2, hX.cell 3, HW6.out.cell HPC.out⟩)
          have HNB : Hid (v.ownBlock ≠ some xb ∧ v.ownBlock ≠ some tb ∧ v.ownBlock ≠ some gp) := hide ⟨HFH.out.row.ne, fun e => by have := (HFH.out.row.own.lt _ e).2; have := HTBW.out; omega, fun e => by have := (HFH.out.row.own.lt _ e).1; have := HGP.out; have := E0.out.size; omega⟩
          have HA9 := hide (fun (W : World) => appendNumberG (w := W) (n := u64N xs) (many := 4) (z := 4) (base := W.heap.size) (Own.nil W W.heap.size 5 1 e8) (Nat.le_refl _) rfl (by omega) (u64N_lt _) (by simp))
          have HA17 := hide (fun (W : World) => HCH.out (.string ⟨xn.toArray⟩) (.int .i64 xs) (.slice eA q ec) sA sn scc hsn W)
          have hck := HCN.out sn
          have HCKL : Hid ((ckL sn ch).length ≤ 5000) := hide (by unfold ckL; rw [ckK_len]; omega)
          have HA22 := hide (fun (W : World) (cA : Option Addr) (cc : Nat) (he : Ext w6 W) (ha : At W 1 e64 cA (ckL sn ch).length cc (ckL sn ch)) => keyCompact_in (HS.out.ext (Ext.trans HW6.out he)) ha (HPA.out.ext (Ext.trans HW6.out he)) hsn HCKL.out hrn5)
          have HPLL : Hid (pli.length ≤ 5000) := hide (by have := HPA.out.len; omega)
          have u9 : IntKind.u64.wrap xs = ((u64N xs : Nat) : Int) := (u64N_cast xs).symm
          have S1 : Hid (hk.length + 1 ≤ maxLen ∧ (hk.length + 1) * 72 ≤ 140737488355328) := hide (by have h1 := HF.out.row.len; have h2 := HKL.out; unfold maxLen; omega)
          have HTBE : Hid (TB = .mk kTrck 0 [] [leafB kName xn, leafB kRate (beN 4 (u64N xs)), leafB kEdit (edB xe), leafB kTabl (tabBy (cmpT sm (ckL sn ch) pli))]) := hide (by rw [HTB.out, HSL.out])
          have HSML : Hid (sm.length ≤ 5000) := hide (by rw [HSL.out]; exact hsn)
          clear HTKE HE hen BE6 hck HTB
          go_upto_region 11 with (fail)
          refine region_z (S := (FbS xb tb gp i v (.string ⟨xn.toArray⟩) (.int .i64 xs) (.slice sA sn scc) (.slice eA q ec) (.slice rA rn rc))) 29 (by kernel_rfl) ?_
          refine AnyZ.takeE (i := 0) (d := 45) (oi := _) (v := ?_) rfl rfl rfl (by kernel_rfl) (by kernel_rfl) (by kernel_rfl) (by kernel_rfl) (by kernel_rfl) (by kernel_rfl) (fun _ _ _ h => h) (Or.inl ⟨by rfl, ?_⟩) (HSX.out.ext (Ext.drew w6)) ?_
          rotate_left
          · intro W hW; obtain ⟨s1, s2, s3, s4, s5, s6⟩ := hW; first | (go_simp; done) | (go_simp; with_reducible rfl)
          try simp only [Act.put, setIfInBounds_toArray, set_cons_zero, set_cons_succ]
          refine AnyZ.takeE (i := 1) (d := 46) (oi := _) (v := ?_) rfl rfl rfl (by kernel_rfl) (by kernel_rfl) (by kernel_rfl) (by kernel_rfl) (by kernel_rfl) (by kernel_rfl) (fun _ _ _ h => h) (Or.inl ⟨by rfl, ?_⟩) (HSX.out.ext (Ext.drew w6)) ?_
          rotate_left
          · intro W hW; obtain ⟨s1, s2, s3, s4, s5, s6⟩ := hW; first | (go_simp; done) | (go_simp; with_reducible rfl)
          try simp only [Act.put, setIfInBounds_toArray, set_cons_zero, set_cons_succ]
          refine AnyZ.takeE (i := 2) (d := 47) (oi := _) (v := ?_) rfl rfl rfl (by kernel_rfl) (by kernel_rfl) (by kernel_rfl) (by kernel_rfl) (by kernel_rfl) (by kernel_rfl) (fun _ _ _ h => h) (Or.inl ⟨by rfl, ?_⟩) (HSX.out.ext (Ext.drew w6)) ?_
          rotate_left
          · intro W hW; obtain ⟨s1, s2, s3, s4, s5, s6⟩ := hW; first | (go_simp; done) | (go_simp; with_reducible rfl)
          try simp only [Act.put, setIfInBounds_toArray, set_cons_zero, set_cons_succ]
          refine AnyZ.takeE (i := 3) (d := 48) (oi := _) (v := ?_) rfl rfl rfl (by kernel_rfl) (by kernel_rfl) (by kernel_rfl) (by kernel_rfl) (by kernel_rfl) (by kernel_rfl) (fun _ _ _ h => h) (Or.inl ⟨by rfl, ?_⟩) (HSX.out.ext (Ext.drew w6)) ?_
          rotate_left
          · intro W hW; obtain ⟨s1, s2, s3, s4, s5, s6⟩ := hW; first | (go_simp; done) | (go_simp; with_reducible rfl)
          try simp only [Act.put, setIfInBounds_toArray, set_cons_zero, set_cons_succ]
          refine AnyZ.takeE (i := 6) (d := 51) (oi := _) (v := ?_) rfl rfl rfl (by kernel_rfl) (by kernel_rfl) (by kernel_rfl) (by kernel_rfl) (by kernel_rfl) (by kernel_rfl) (fun _ _ _ h => h) (Or.inl ⟨by rfl, ?_⟩) (HSX.out.ext (Ext.drew w6)) ?_
          rotate_left
          · intro W hW; obtain ⟨s1, s2, s3, s4, s5, s6⟩ := hW; first | (go_simp; done) | (go_simp; with_reducible rfl)
          try simp only [Act.put, setIfInBounds_toArray, set_cons_zero, set_cons_succ]
          refine AnyZ.takeE (i := 7) (d := 52) (oi := _) (v := ?_) rfl rfl rfl (by kernel_rfl) (by kernel_rfl) (by kernel_rfl) (by kernel_rfl) (by kernel_rfl) (by kernel_rfl) (fun _ _ _ h => h) (Or.inl ⟨by rfl, ?_⟩) (HSX.out.ext (Ext.drew w6)) ?_
          rotate_left
          · intro W hW; obtain ⟨s1, s2, s3, s4, s5, s6⟩ := hW; first | (go_simp; done) | (go_simp; with_reducible rfl)
          try simp only [Act.put, setIfInBounds_toArray, set_cons_zero, set_cons_succ]
          refine AnyZ.takeE (i := 8) (d := 53) (oi := _) (v := ?_) rfl rfl rfl (by kernel_rfl) (by kernel_rfl) (by kernel_rfl) (by kernel_rfl) (by kernel_rfl) (by kernel_rfl) (fun _ _ _ h => h) (Or.inl ⟨by rfl, ?_⟩) (HSX.out.ext (Ext.drew w6)) ?_
          rotate_left
          · intro W hW; obtain ⟨s1, s2, s3, s4, s5, s6⟩ := hW; first | (go_simp; done) | (go_simp; with_reducible rfl)
          try simp only [Act.put, setIfInBounds_toArray, set_cons_zero, set_cons_succ]
          refine AnyZ.takeE (i := 11) (d := 56) (oi := _) (v := ?_) rfl rfl rfl (by kernel_rfl) (by kernel_rfl) (by kernel_rfl) (by kernel_rfl) (by kernel_rfl) (by kernel_rfl) (fun _ _ _ h => h) (Or.inl ⟨by rfl, ?_⟩) (HSX.out.ext (Ext.drew w6)) ?_
          rotate_left
          · intro W hW; obtain ⟨s1, s2, s3, s4, s5, s6⟩ := hW; first | (go_simp; done) | (go_simp; with_reducible rfl)
          try simp only [Act.put, setIfInBounds_toArray, set_cons_zero, set_cons_succ]
          refine AnyZ.takeE (i := 12) (d := 57) (oi := _) (v := ?_) rfl rfl rfl (by kernel_rfl) (by kernel_rfl) (by kernel_rfl) (by kernel_rfl) (by kernel_rfl) (by kernel_rfl) (fun _ _ _ h => h) (Or.inl ⟨by rfl, ?_⟩) (HSX.out.ext (Ext.drew w6)) ?_
          rotate_left
          · intro W hW; obtain ⟨s1, s2, s3, s4, s5, s6⟩ := hW; first | (go_simp; done) | (go_simp; with_reducible rfl)
          try simp only [Act.put, setIfInBounds_toArray, set_cons_zero, set_cons_succ]
          refine AnyZ.takeE (i := 13) (d := 58) (oi := _) (v := ?_) rfl rfl rfl (by kernel_rfl) (by kernel_rfl) (by kernel_rfl) (by kernel_rfl) (by kernel_rfl) (by kernel_rfl) (fun _ _ _ h => h) (Or.inl ⟨by rfl, ?_⟩) (HSX.out.ext (Ext.drew w6)) ?_
          rotate_left
          · intro W hW; obtain ⟨s1, s2, s3, s4, s5, s6⟩ := hW; first | (go_simp; done) | (go_simp; with_reducible rfl)
          try simp only [Act.put, setIfInBounds_toArray, set_cons_zero, set_cons_succ]
          refine AnyZ.takeE (i := 14) (d := 59) (oi := _) (v := ?_) rfl rfl rfl (by kernel_rfl) (by kernel_rfl) (by kernel_rfl) (by kernel_rfl) (by kernel_rfl) (by kernel_rfl) (fun _ _ _ h => h) (Or.inl ⟨by rfl, ?_⟩) (HSX.out.ext (Ext.drew w6)) ?_
          rotate_left
          · intro W hW; obtain ⟨s1, s2, s3, s4, s5, s6⟩ := hW; first | (go_simp; done) | (go_simp; with_reducible rfl)
          try simp only [Act.put, setIfInBounds_toArray, set_cons_zero, set_cons_succ]
          refine AnyZ.takeE (i := 15) (d := 60) (oi := _) (v := ?_) rfl rfl rfl (by kernel_rfl) (by kernel_rfl) (by kernel_rfl) (by kernel_rfl) (by kernel_rfl) (by kernel_rfl) (fun _ _ _ h => h) (Or.inl ⟨by rfl, ?_⟩) (HSX.out.ext (Ext.drew w6)) ?_
          rotate_left
          · intro W hW; obtain ⟨s1, s2, s3, s4, s5, s6⟩ := hW; first | (go_simp; done) | (go_simp; with_reducible rfl)
          try simp only [Act.put, setIfInBounds_toArray, set_cons_zero, set_cons_succ]
          refine AnyZ.takeE (i := 16) (d := 61) (oi := _) (v := ?_) rfl rfl rfl (by kernel_rfl) (by kernel_rfl) (by kernel_rfl) (by kernel_rfl) (by kernel_rfl) (by kernel_rfl) (fun _ _ _ h => h) (Or.inl ⟨by rfl, ?_⟩) (HSX.out.ext (Ext.drew w6)) ?_
          rotate_left
          · intro W hW; obtain ⟨s1, s2, s3, s4, s5, s6⟩ := hW; first | (go_simp; done) | (go_simp; with_reducible rfl)
          try simp only [Act.put, setIfInBounds_toArray, set_cons_zero, set_cons_succ]
          refine AnyZ.takeE (i := 18) (d := 63) (oi := _) (v := ?_) rfl rfl rfl (by kernel_rfl) (by kernel_rfl) (by kernel_rfl) (by kernel_rfl) (by kernel_rfl) (by kernel_rfl) (fun _ _ _ h => h) (Or.inl ⟨by rfl, ?_⟩) (HSX.out.ext (Ext.drew w6)) ?_
          rotate_left
          · intro W hW; obtain ⟨s1, s2, s3, s4, s5, s6⟩ := hW; first | (go_simp; done) | (go_simp; with_reducible rfl)
          try simp only [Act.put, setIfInBounds_toArray, set_cons_zero, set_cons_succ]
          refine AnyZ.takeE (i := 19) (d := 64) (oi := _) (v := ?_) rfl rfl rfl (by kernel_rfl) (by kernel_rfl) (by kernel_rfl) (by kernel_rfl) (by kernel_rfl) (by kernel_rfl) (fun _ _ _ h => h) (Or.inl ⟨by rfl, ?_⟩) (HSX.out.ext (Ext.drew w6)) ?_
          rotate_left
          · intro W hW; obtain ⟨s1, s2, s3, s4, s5, s6⟩ := hW; first | (go_simp; done) | (go_simp; with_reducible rfl)
          try simp only [Act.put, setIfInBounds_toArray, set_cons_zero, set_cons_succ]
          refine AnyZ.takeE (i := 20) (d := 65) (oi := _) (v := ?_) rfl rfl rfl (by kernel_rfl) (by kernel_rfl) (by kernel_rfl) (by kernel_rfl) (by kernel_rfl) (by kernel_rfl) (fun _ _ _ h => h) (Or.inl ⟨by rfl, ?_⟩) (HSX.out.ext (Ext.drew w6)) ?_
          rotate_left
          · intro W hW; obtain ⟨s1, s2, s3, s4, s5, s6⟩ := hW; first | (go_simp; done) | (go_simp; with_reducible rfl)
          try simp only [Act.put, setIfInBounds_toArray, set_cons_zero, set_cons_succ]
          refine AnyZ.takeE (i := 21) (d := 66) (oi := _) (v := ?_) rfl rfl rfl (by kernel_rfl) (by kernel_rfl) (by kernel_rfl) (by kernel_rfl) (by kernel_rfl) (by kernel_rfl) (fun _ _ _ h => h) (Or.inl ⟨by rfl, ?_⟩) (HSX.out.ext (Ext.drew w6)) ?_
          rotate_left
          · intro W hW; obtain ⟨s1, s2, s3, s4, s5, s6⟩ := hW; first | (go_simp; done) | (go_simp; with_reducible rfl)
          try simp only [Act.put, setIfInBounds_toArray, set_cons_zero, set_cons_succ]
          refine AnyZ.many (i := 4) (r := [9]) (by kernel_rfl) (AllZ.cons rfl (fun K hK => ?_) (AllZ.cons rfl (fun K hK => ?_) trivial))
          · have hcv := conv_str w6.drew xn
            go_simp
            obtain ⟨wn1, hwn1⟩ : ∃ w, w = Go.Lib.bytesWorld w6.drew 5 ⟨xn.toArray⟩ := ⟨_, rfl⟩
            have EX1 : Hid (Ext w6.drew wn1) := hide (by rw [hwn1]; exact bytesW_ext _ _ _)
            have NB1 := hide (show BtP wn1 wh.heap.size _ _ _ xn by rw [hwn1]; exact (bytesW_at w6.drew xn (by have := HNL.out; omega)).low (Ext.trans HEW.out (Ext.drew w6)).size)
            rw [← hwn1]
            clear hwn1 hcv
            refine hK.out _ _ (fun h => HSX.out.ext (Ext.trans (Ext.drew w6) EX1.out)) ?_
            clear hK K
            try simp only [Act.put, setIfInBounds_toArray, set_cons_zero, set_cons_succ]
            refine AnyZ.takeE (i := 5) (d := 50) (oi := _) (v := ?_) rfl rfl rfl (by kernel_rfl) (by kernel_rfl) (by kernel_rfl) (by kernel_rfl) (by kernel_rfl) (by kernel_rfl) (fun _ _ _ h => h) (Or.inl ⟨by rfl, ?_⟩) (HSX.out.ext (Ext.trans (Ext.drew w6) EX1.out)) ?_
            rotate_left
            · intro W hW; obtain ⟨s1, s2, s3, s4, s5, s6⟩ := hW; first | (go_simp; done) | (go_simp; with_reducible rfl)
            try simp only [Act.put, setIfInBounds_toArray, set_cons_zero, set_cons_succ]
            refine AnyZ.step (i := 9) rfl (by kernel_rfl) (fun K hK => ?_)
            go_simp
            go_at_call 47
            with_reducible refine (HA9.out _).mono ?_
            rintro e wn2 ⟨v2, rfl, o2, g2⟩
            rw [List.nil_append] at o2
            have EX2 : Hid (Ext wn1 wn2) := hide (Own.below (Own.nil _ _ 5 1 e8) (Ext.refl _) g2.grown (Nat.le_refl _))
            obtain ⟨rtA, rtc, rfl, B2⟩ := BtP.own (B' := wh.heap.size) o2 (Ext.trans HEW.out (Ext.trans (Ext.drew w6) EX1.out)).size
            have RB2 := hide B2
            clear o2 g2 B2
            refine hK.out _ _ (fun h => HSX.out.ext (Ext.trans (Ext.drew w6) (Ext.trans EX1.out EX2.out))) ?_
            clear hK K
            try simp only [Act.put, setIfInBounds_toArray, set_cons_zero, set_cons_succ]
            refine AnyZ.takeE (i := 10) (d := 55) (oi := _) (v := ?_) rfl rfl rfl (by kernel_rfl) (by kernel_rfl) (by kernel_rfl) (by kernel_rfl) (by kernel_rfl) (by kernel_rfl) (fun _ _ _ h => h) (Or.inl ⟨by rfl, ?_⟩) (HSX.out.ext (Ext.trans (Ext.drew w6) (Ext.trans EX1.out EX2.out))) ?_
            rotate_left
            · intro W hW; obtain ⟨s1, s2, s3, s4, s5, s6⟩ := hW; first | (go_simp; done) | (go_simp; with_reducible rfl)
            try simp only [Act.put, setIfInBounds_toArray, set_cons_zero, set_cons_succ]
            refine AnyZ.step (i := 17) rfl (by kernel_rfl) (fun K hK => ?_)
            go_simp
            go_at_call 50
            with_reducible refine (HA17.out _).mono ?_
            rintro e wn3 ⟨v3, rfl, o3, e3⟩
            have EX3 := hide e3
            obtain ⟨cA, cc, rfl, a3⟩ := o3.at_ len_e64
            have CB3 := hide a3
            clear o3 e3 a3
            refine hK.out _ _ (fun h => HSX.out.ext (Ext.trans (Ext.drew w6) (Ext.trans EX1.out (Ext.trans EX2.out EX3.out)))) ?_
            clear hK K
            try simp only [Act.put, setIfInBounds_toArray, set_cons_zero, set_cons_succ]
            refine AnyZ.step (i := 22) rfl (by kernel_rfl) (fun K hK => ?_)
            go_simp
            go_at_call 49
            with_reducible refine (HA22.out _ _ _ (Ext.trans (Ext.drew w6) (Ext.trans EX1.out (Ext.trans EX2.out EX3.out))) CB3.out).mono ?_
            rintro e wn4 ⟨v4, rfl, t4, e4⟩
            have EX4 := hide e4
            obtain ⟨tsA, tsn, tsc, thA, thn, thc, tzA, tzn, tzc, tkA, tkn, tkc, tcA, tcn, tcc, tpA, tpn, tpc, rfl, ta4, _⟩ := t4
            have HFW := hide (cmp_fw ta4 HSML.out HCKL.out HPLL.out)
            have TB4 := hide ta4
            clear ta4 e4
            refine hK.out _ _ (fun h => HSX.out.ext (Ext.trans (Ext.drew w6) (Ext.trans EX1.out (Ext.trans EX2.out (Ext.trans EX3.out EX4.out))))) ?_
            clear hK K
            try simp only [Act.put, setIfInBounds_toArray, set_cons_zero, set_cons_succ]
            refine AnyZ.step (i := 23) rfl (by kernel_rfl) (fun K hK => ?_)
            go_simp
            go_at_call 48
            with_reducible refine (tableBytes_in TB4.out rfl HFW.out).mono ?_
            rintro e wn5 ⟨bA5, bn5, bc5, rfl, o5, e5⟩
            have EX5 := hide e5
            obtain ⟨btA, btc, hbt, B5⟩ := BtP.own (B' := wh.heap.size) o5 (by have := (Ext.trans HEW.out (Ext.trans (Ext.drew w6) (Ext.trans EX1.out (Ext.trans EX2.out (Ext.trans EX3.out EX4.out))))).size; omega)
            rw [hbt]
            have BB5 := hide B5
            clear o5 e5 B5 hbt
            refine hK.out _ _ (fun h => HSX.out.ext (Ext.trans (Ext.drew w6) (Ext.trans EX1.out (Ext.trans EX2.out (Ext.trans EX3.out (Ext.trans EX4.out EX5.out)))))) ?_
            clear hK K
            try simp only [Act.put, setIfInBounds_toArray, set_cons_zero, set_cons_succ]
            refine AnyZ.takeE (i := 24) (d := 69) (oi := _) (v := ?_) rfl rfl rfl (by kernel_rfl) (by kernel_rfl) (by kernel_rfl) (by kernel_rfl) (by kernel_rfl) (by kernel_rfl) (fun _ _ _ h => h) (Or.inl ⟨by rfl, ?_⟩) (HSX.out.ext (Ext.trans (Ext.drew w6) (Ext.trans EX1.out (Ext.trans EX2.out (Ext.trans EX3.out (Ext.trans EX4.out EX5.out)))))) ?_
            rotate_left
            · intro W hW; obtain ⟨s1, s2, s3, s4, s5, s6⟩ := hW; first | (go_simp; done) | (go_simp; with_reducible rfl)
            try simp only [Act.put, setIfInBounds_toArray, set_cons_zero, set_cons_succ]
            refine AnyZ.step (i := 25) rfl (by kernel_rfl) (fun K hK => ?_)
            go_simp
            have BX6 := hide (four_bxs (W := wn5) (B := wh.heap.size) (Ext.trans HEW.out (Ext.trans (Ext.drew w6) (Ext.trans EX1.out (Ext.trans EX2.out (Ext.trans EX3.out (Ext.trans EX4.out EX5.out)))))).size (NB1.out.ext (Ext.trans EX2.out (Ext.trans EX3.out (Ext.trans EX4.out EX5.out)))) (RB2.out.ext (Ext.trans EX3.out (Ext.trans EX4.out EX5.out))) (HBE.out.ext (Ext.trans (Ext.drew w6) (Ext.trans EX1.out (Ext.trans EX2.out (Ext.trans EX3.out (Ext.trans EX4.out EX5.out)))))) BB5.out)
            refine gen_hk hK fun wn6 hwn6 => ?_
            have EX6 : Hid (Ext wn5 wn6) := hide (by rw [hwn6]; exact Ext.alloc _ _)
            have BY6 : Hid (BxOk wn6 (G1 wh.heap.size wn6) ⟨kTrck, 0, none, 0, 0, some ⟨wn5.heap.size, 0, none⟩, 4, 4⟩ TB) := hide (by rw [hwn6, HTBE.out]; exact BX6.out)
            refine ⟨fun h => HSX.out.ext (Ext.trans (Ext.drew w6) (Ext.trans EX1.out (Ext.trans EX2.out (Ext.trans EX3.out (Ext.trans EX4.out (Ext.trans EX5.out EX6.out)))))), ?_⟩
            clear hK K hwn6 BX6
            try simp only [Act.put, setIfInBounds_toArray, set_cons_zero, set_cons_succ]
            refine AnyZ.takeE (i := 26) (d := 71) (oi := _) (v := ?_) rfl rfl rfl (by kernel_rfl) (by kernel_rfl) (by kernel_rfl) (by kernel_rfl) (by kernel_rfl) (by kernel_rfl) (fun _ _ _ h => h) (Or.inl ⟨by rfl, ?_⟩) (HSX.out.ext (Ext.trans (Ext.drew w6) (Ext.trans EX1.out (Ext.trans EX2.out (Ext.trans EX3.out (Ext.trans EX4.out (Ext.trans EX5.out EX6.out))))))) ?_
            rotate_left
            · intro W hW; obtain ⟨s1, s2, s3, s4, s5, s6⟩ := hW; first | (go_simp; done) | (go_simp; with_reducible rfl)
            try simp only [Act.put, setIfInBounds_toArray, set_cons_zero, set_cons_succ]
            refine AnyZ.step (i := 27) rfl (by kernel_rfl) (fun K hK => ?_)
            go_simp
            refine gen_hk hK fun wn7 hwn7 => ?_
            have EX7 : Hid (Ext wn6 wn7) := hide (by rw [hwn7]; exact Ext.alloc _ _)
            have AT7 : Hid (At wn7 4 eBx (some ⟨wn6.heap.size, 0, none⟩) 1 1 [(⟨kTrck, 0, none, 0, 0, some ⟨wn5.heap.size, 0, none⟩, 4, 4⟩ : BoxH)]) := hide (by rw [hwn7]; exact At.newE (enc := eBx) wn6 _ _ _ rfl)
            refine ⟨fun h => HSX.out.ext (Ext.trans (Ext.drew w6) (Ext.trans EX1.out (Ext.trans EX2.out (Ext.trans EX3.out (Ext.trans EX4.out (Ext.trans EX5.out (Ext.trans EX6.out EX7.out))))))), ?_⟩
            clear hK K hwn7
            try simp only [Act.put, setIfInBounds_toArray, set_cons_zero, set_cons_succ]
            refine AnyZ.step (i := 28) rfl (by kernel_rfl) (fun K hK => ?_)
            have EA := hide (Ext.trans HEW.out (Ext.trans (Ext.drew w6) (Ext.trans EX1.out (Ext.trans EX2.out (Ext.trans EX3.out (Ext.trans EX4.out (Ext.trans EX5.out (Ext.trans EX6.out EX7.out))))))))
            have OA := hide (HFH.out.row.own.ext EA.out)
            have SA : Hid (w0.heap.size ≤ wn7.heap.size) := hide (Nat.le_trans HFH.out.ext.size EA.out.size)
            refine step_append_at rfl _ _ 64 rfl w0.heap.size 66 i0_ _ 72 Try.underlying64 hi0 hz0 hz1 hz2 rfl (by omega) len_eBx one_eBx v hk (by rfl) OA.out (some ⟨wn6.heap.size, 0, none⟩) 1 1 _ (by rfl) AT7.out S1.out.1 S1.out.2 SA.out ?_
            intro v9 w9 o9 g9 _ r9
            obtain ⟨A9, c9_, hv9, _⟩ := o9.at_ len_eBx
            generalize (hk ++ [_]).length = n9_ at hv9
            subst hv9
            have F9 := hide (HFH.out.snoc EA.out (okG1 BY6.out EX7.out) o9 g9 r9)
            have M9 := hide (HFH.out.mid EA.out g9)
            have SX9 := hide ((HSX.out.ext (Ext.trans (Ext.drew w6) (Ext.trans EX1.out (Ext.trans EX2.out (Ext.trans EX3.out (Ext.trans EX4.out (Ext.trans EX5.out (Ext.trans EX6.out EX7.out)))))))).grow g9 HNB.out.1 HNB.out.2.1 HNB.out.2.2)
            clear o9 g9 r9
            refine hK.out _ _ (fun h => SX9.out) ?_
            clear hK K
            try simp only [Act.put, setIfInBounds_toArray, set_cons_zero, set_cons_succ]
            have c9 : w9.cell? ⟨xb, 3, none⟩ = some v := M9.out.cell 3
            have f9 := M9.out.frozen 3
            refine AnyZ.step (i := 29) rfl (by kernel_rfl) (fun K hK => ?_)
            go_simp
            refine hK.out _ _ (fun h => ?_) ?_
            · exact absurd (h.symm.trans (show _ = true by kernel_rfl)) (by simp)
            clear hK K
            try simp only [Act.put, setIfInBounds_toArray, set_cons_zero, set_cons_succ]
            refine AnyZ.step (i := 30) rfl (by kernel_rfl) (fun K hK => ?_)
            go_simp
            refine hK.out _ _ (fun h => ?_) ?_
            · exact absurd (h.symm.trans (show _ = true by kernel_rfl)) (by simp)
            clear hK K
            try simp only [Act.put, setIfInBounds_toArray, set_cons_zero, set_cons_succ]
            refine AnyZ.done (by kernel_rfl) ?_ _
            clear c9 f9 SX9 M9
            go_wp2_with fail
            exact ⟨⟨i + 1, _, _, by omega, by go_num, hide (by rw [HKS1.out, HKS.out]; exact F9.out)⟩, by simp [intOf]; omega⟩
          · go_simp
            go_at_call 47
            with_reducible refine (HA9.out _).mono ?_
            rintro e wn1 ⟨v1, rfl, o1, g1⟩
            rw [List.nil_append] at o1
            have EX1 : Hid (Ext w6.drew wn1) := hide (Own.below (Own.nil _ _ 5 1 e8) (Ext.refl _) g1.grown (Nat.le_refl _))
            obtain ⟨rtA, rtc, rfl, B1⟩ := BtP.own (B' := wh.heap.size) o1 (Ext.trans HEW.out (Ext.drew w6)).size
            have RB1 := hide B1
            clear o1 g1 B1
            refine hK.out _ _ (fun h => HSX.out.ext (Ext.trans (Ext.drew w6) EX1.out)) ?_
            clear hK K
            try simp only [Act.put, setIfInBounds_toArray, set_cons_zero, set_cons_succ]
            refine AnyZ.takeE (i := 10) (d := 55) (oi := _) (v := ?_) rfl rfl rfl (by kernel_rfl) (by kernel_rfl) (by kernel_rfl) (by kernel_rfl) (by kernel_rfl) (by kernel_rfl) (fun _ _ _ h => h) (Or.inl ⟨by rfl, ?_⟩) (HSX.out.ext (Ext.trans (Ext.drew w6) EX1.out)) ?_
            rotate_left
            · intro W hW; obtain ⟨s1, s2, s3, s4, s5, s6⟩ := hW; first | (go_simp; done) | (go_simp; with_reducible rfl)
            try simp only [Act.put, setIfInBounds_toArray, set_cons_zero, set_cons_succ]
            refine AnyZ.many (i := 4) (r := [17]) (by kernel_rfl) (AllZ.cons rfl (fun K hK => ?_) (AllZ.cons rfl (fun K hK => ?_) trivial))
            · have hcv := conv_str wn1 xn
              go_simp
              obtain ⟨wn2, hwn2⟩ : ∃ w, w = Go.Lib.bytesWorld wn1 5 ⟨xn.toArray⟩ := ⟨_, rfl⟩
              have EX2 : Hid (Ext wn1 wn2) := hide (by rw [hwn2]; exact bytesW_ext _ _ _)
              have NB2 := hide (show BtP wn2 wh.heap.size _ _ _ xn by rw [hwn2]; exact (bytesW_at wn1 xn (by have := HNL.out; omega)).low (Ext.trans HEW.out (Ext.trans (Ext.drew w6) EX1.out)).size)
              rw [← hwn2]
              clear hwn2 hcv
              refine hK.out _ _ (fun h => HSX.out.ext (Ext.trans (Ext.drew w6) (Ext.trans EX1.out EX2.out))) ?_
              clear hK K
              try simp only [Act.put, setIfInBounds_toArray, set_cons_zero, set_cons_succ]
              refine AnyZ.takeE (i := 5) (d := 50) (oi := _) (v := ?_) rfl rfl rfl (by kernel_rfl) (by kernel_rfl) (by kernel_rfl) (by kernel_rfl) (by kernel_rfl) (by kernel_rfl) (fun _ _ _ h => h) (Or.inl ⟨by rfl, ?_⟩) (HSX.out.ext (Ext.trans (Ext.drew w6) (Ext.trans EX1.out EX2.out))) ?_
              rotate_left
              · intro W hW; obtain ⟨s1, s2, s3, s4, s5, s6⟩ := hW; first | (go_simp; done) | (go_simp; with_reducible rfl)
              try simp only [Act.put, setIfInBounds_toArray, set_cons_zero, set_cons_succ]
              refine AnyZ.step (i := 17) rfl (by kernel_rfl) (fun K hK => ?_)
              go_simp
              go_at_call 50
              with_reducible refine (HA17.out _).mono ?_
              rintro e wn3 ⟨v3, rfl, o3, e3⟩
              have EX3 := hide e3
              obtain ⟨cA, cc, rfl, a3⟩ := o3.at_ len_e64
              have CB3 := hide a3
              clear o3 e3 a3
              refine hK.out _ _ (fun h => HSX.out.ext (Ext.trans (Ext.drew w6) (Ext.trans EX1.out (Ext.trans EX2.out EX3.out)))) ?_
              clear hK K
              try simp only [Act.put, setIfInBounds_toArray, set_cons_zero, set_cons_succ]
              refine AnyZ.step (i := 22) rfl (by kernel_rfl) (fun K hK => ?_)
              go_simp
              go_at_call 49
              with_reducible refine (HA22.out _ _ _ (Ext.trans (Ext.drew w6) (Ext.trans EX1.out (Ext.trans EX2.out EX3.out))) CB3.out).mono ?_
              rintro e wn4 ⟨v4, rfl, t4, e4⟩
              have EX4 := hide e4
              obtain ⟨tsA, tsn, tsc, thA, thn, thc, tzA, tzn, tzc, tkA, tkn, tkc, tcA, tcn, tcc, tpA, tpn, tpc, rfl, ta4, _⟩ := t4
              have HFW := hide (cmp_fw ta4 HSML.out HCKL.out HPLL.out)
              have TB4 := hide ta4
              clear ta4 e4
              refine hK.out _ _ (fun h => HSX.out.ext (Ext.trans (Ext.drew w6) (Ext.trans EX1.out (Ext.trans EX2.out (Ext.trans EX3.out EX4.out))))) ?_
              clear hK K
              try simp only [Act.put, setIfInBounds_toArray, set_cons_zero, set_cons_succ]
              refine AnyZ.step (i := 23) rfl (by kernel_rfl) (fun K hK => ?_)
              go_simp
              go_at_call 48
              with_reducible refine (tableBytes_in TB4.out rfl HFW.out).mono ?_
              rintro e wn5 ⟨bA5, bn5, bc5, rfl, o5, e5⟩
              have EX5 := hide e5
              obtain ⟨btA, btc, hbt, B5⟩ := BtP.own (B' := wh.heap.size) o5 (by have := (Ext.trans HEW.out (Ext.trans (Ext.drew w6) (Ext.trans EX1.out (Ext.trans EX2.out (Ext.trans EX3.out EX4.out))))).size; omega)
              rw [hbt]
              have BB5 := hide B5
              clear o5 e5 B5 hbt
              refine hK.out _ _ (fun h => HSX.out.ext (Ext.trans (Ext.drew w6) (Ext.trans EX1.out (Ext.trans EX2.out (Ext.trans EX3.out (Ext.trans EX4.out EX5.out)))))) ?_
              clear hK K
              try simp only [Act.put, setIfInBounds_toArray, set_cons_zero, set_cons_succ]
              refine AnyZ.takeE (i := 24) (d := 69) (oi := _) (v := ?_) rfl rfl rfl (by kernel_rfl) (by kernel_rfl) (by kernel_rfl) (by kernel_rfl) (by kernel_rfl) (by kernel_rfl) (fun _ _ _ h => h) (Or.inl ⟨by rfl, ?_⟩) (HSX.out.ext (Ext.trans (Ext.drew w6) (Ext.trans EX1.out (Ext.trans EX2.out (Ext.trans EX3.out (Ext.trans EX4.out EX5.out)))))) ?_
              rotate_left
              · intro W hW; obtain ⟨s1, s2, s3, s4, s5, s6⟩ := hW; first | (go_simp; done) | (go_simp; with_reducible rfl)
              try simp only [Act.put, setIfInBounds_toArray, set_cons_zero, set_cons_succ]
              refine AnyZ.step (i := 25) rfl (by kernel_rfl) (fun K hK => ?_)
              go_simp
              have BX6 := hide (four_bxs (W := wn5) (B := wh.heap.size) (Ext.trans HEW.out (Ext.trans (Ext.drew w6) (Ext.trans EX1.out (Ext.trans EX2.out (Ext.trans EX3.out (Ext.trans EX4.out EX5.out)))))).size (NB2.out.ext (Ext.trans EX3.out (Ext.trans EX4.out EX5.out))) (RB1.out.ext (Ext.trans EX2.out (Ext.trans EX3.out (Ext.trans EX4.out EX5.out)))) (HBE.out.ext (Ext.trans (Ext.drew w6) (Ext.trans EX1.out (Ext.trans EX2.out (Ext.trans EX3.out (Ext.trans EX4.out EX5.out)))))) BB5.out)
              refine gen_hk hK fun wn6 hwn6 => ?_
              have EX6 : Hid (Ext wn5 wn6) := hide (by rw [hwn6]; exact Ext.alloc _ _)
              have BY6 : Hid (BxOk wn6 (G1 wh.heap.size wn6) ⟨kTrck, 0, none, 0, 0, some ⟨wn5.heap.size, 0, none⟩, 4, 4⟩ TB) := hide (by rw [hwn6, HTBE.out]; exact BX6.out)
              refine ⟨fun h => HSX.out.ext (Ext.trans (Ext.drew w6) (Ext.trans EX1.out (Ext.trans EX2.out (Ext.trans EX3.out (Ext.trans EX4.out (Ext.trans EX5.out EX6.out)))))), ?_⟩
              clear hK K hwn6 BX6
              try simp only [Act.put, setIfInBounds_toArray, set_cons_zero, set_cons_succ]
              refine AnyZ.takeE (i := 26) (d := 71) (oi := _) (v := ?_) rfl rfl rfl (by kernel_rfl) (by kernel_rfl) (by kernel_rfl) (by kernel_rfl) (by kernel_rfl) (by kernel_rfl) (fun _ _ _ h => h) (Or.inl ⟨by rfl, ?_⟩) (HSX.out.ext (Ext.trans (Ext.drew w6) (Ext.trans EX1.out (Ext.trans EX2.out (Ext.trans EX3.out (Ext.trans EX4.out (Ext.trans EX5.out EX6.out))))))) ?_
              rotate_left
              · intro W hW; obtain ⟨s1, s2, s3, s4, s5, s6⟩ := hW; first | (go_simp; done) | (go_simp; with_reducible rfl)
              try simp only [Act.put, setIfInBounds_toArray, set_cons_zero, set_cons_succ]
              refine AnyZ.step (i := 27) rfl (by kernel_rfl) (fun K hK => ?_)
              go_simp
              refine gen_hk hK fun wn7 hwn7 => ?_
              have EX7 : Hid (Ext wn6 wn7) := hide (by rw [hwn7]; exact Ext.alloc _ _)
              have AT7 : Hid (At wn7 4 eBx (some ⟨wn6.heap.size, 0, none⟩) 1 1 [(⟨kTrck, 0, none, 0, 0, some ⟨wn5.heap.size, 0, none⟩, 4, 4⟩ : BoxH)]) := hide (by rw [hwn7]; exact At.newE (enc := eBx) wn6 _ _ _ rfl)
              refine ⟨fun h => HSX.out.ext (Ext.trans (Ext.drew w6) (Ext.trans EX1.out (Ext.trans EX2.out (Ext.trans EX3.out (Ext.trans EX4.out (Ext.trans EX5.out (Ext.trans EX6.out EX7.out))))))), ?_⟩
              clear hK K hwn7
              try simp only [Act.put, setIfInBounds_toArray, set_cons_zero, set_cons_succ]
              refine AnyZ.step (i := 28) rfl (by kernel_rfl) (fun K hK => ?_)
              have EA := hide (Ext.trans HEW.out (Ext.trans (Ext.drew w6) (Ext.trans EX1.out (Ext.trans EX2.out (Ext.trans EX3.out (Ext.trans EX4.out (Ext.trans EX5.out (Ext.trans EX6.out EX7.out))))))))
              have OA := hide (HFH.out.row.own.ext EA.out)
              have SA : Hid (w0.heap.size ≤ wn7.heap.size) := hide (Nat.le_trans HFH.out.ext.size EA.out.size)
              refine step_append_at rfl _ _ 64 rfl w0.heap.size 66 i0_ _ 72 Try.underlying64 hi0 hz0 hz1 hz2 rfl (by omega) len_eBx one_eBx v hk (by rfl) OA.out (some ⟨wn6.heap.size, 0, none⟩) 1 1 _ (by rfl) AT7.out S1.out.1 S1.out.2 SA.out ?_
              intro v9 w9 o9 g9 _ r9
              obtain ⟨A9, c9_, hv9, _⟩ := o9.at_ len_eBx
              generalize (hk ++ [_]).length = n9_ at hv9
              subst hv9
              have F9 := hide (HFH.out.snoc EA.out (okG1 BY6.out EX7.out) o9 g9 r9)
              have M9 := hide (HFH.out.mid EA.out g9)
              have SX9 := hide ((HSX.out.ext (Ext.trans (Ext.drew w6) (Ext.trans EX1.out (Ext.trans EX2.out (Ext.trans EX3.out (Ext.trans EX4.out (Ext.trans EX5.out (Ext.trans EX6.out EX7.out)))))))).grow g9 HNB.out.1 HNB.out.2.1 HNB.out.2.2)
              clear o9 g9 r9
              refine hK.out _ _ (fun h => SX9.out) ?_
              clear hK K
              try simp only [Act.put, setIfInBounds_toArray, set_cons_zero, set_cons_succ]
              have c9 : w9.cell? ⟨xb, 3, none⟩ = some v := M9.out.cell 3
              have f9 := M9.out.frozen 3
              refine AnyZ.step (i := 29) rfl (by kernel_rfl) (fun K hK => ?_)
              go_simp
              refine hK.out _ _ (fun h => ?_) ?_
              · exact absurd (h.symm.trans (show _ = true by kernel_rfl)) (by simp)
              clear hK K
              try simp only [Act.put, setIfInBounds_toArray, set_cons_zero, set_cons_succ]
              refine AnyZ.step (i := 30) rfl (by kernel_rfl) (fun K hK => ?_)
              go_simp
              refine hK.out _ _ (fun h => ?_) ?_
              · exact absurd (h.symm.trans (show _ = true by kernel_rfl)) (by simp)
              clear hK K
              try simp only [Act.put, setIfInBounds_toArray, set_cons_zero, set_cons_succ]
              refine AnyZ.done (by kernel_rfl) ?_ _
              clear c9 f9 SX9 M9
              go_wp2_with fail
              exact ⟨⟨i + 1, _, _, by omega, by go_num, hide (by rw [HKS1.out, HKS.out]; exact F9.out)⟩, by simp [intOf]; omega⟩
            · go_simp
              go_at_call 50
              with_reducible refine (HA17.out _).mono ?_
              rintro e wn2 ⟨v2, rfl, o2, e2⟩
              have EX2 := hide e2
              obtain ⟨cA, cc, rfl, a2⟩ := o2.at_ len_e64
              have CB2 := hide a2
              clear o2 e2 a2
              refine hK.out _ _ (fun h => HSX.out.ext (Ext.trans (Ext.drew w6) (Ext.trans EX1.out EX2.out))) ?_
              clear hK K
              try simp only [Act.put, setIfInBounds_toArray, set_cons_zero, set_cons_succ]
              refine AnyZ.many (i := 4) (r := [22]) (by kernel_rfl) (AllZ.cons rfl (fun K hK => ?_) (AllZ.cons rfl (fun K hK => ?_) trivial))
              · have hcv := conv_str wn2 xn
                go_simp
                obtain ⟨wn3, hwn3⟩ : ∃ w, w = Go.Lib.bytesWorld wn2 5 ⟨xn.toArray⟩ := ⟨_, rfl⟩
                have EX3 : Hid (Ext wn2 wn3) := hide (by rw [hwn3]; exact bytesW_ext _ _ _)
                have NB3 := hide (show BtP wn3 wh.heap.size _ _ _ xn by rw [hwn3]; exact (bytesW_at wn2 xn (by have := HNL.out; omega)).low (Ext.trans HEW.out (Ext.trans (Ext.drew w6) (Ext.trans EX1.out EX2.out))).size)
                rw [← hwn3]
                clear hwn3 hcv
                refine hK.out _ _ (fun h => HSX.out.ext (Ext.trans (Ext.drew w6) (Ext.trans EX1.out (Ext.trans EX2.out EX3.out)))) ?_
                clear hK K
                try simp only [Act.put, setIfInBounds_toArray, set_cons_zero, set_cons_succ]
                refine AnyZ.takeE (i := 5) (d := 50) (oi := _) (v := ?_) rfl rfl rfl (by kernel_rfl) (by kernel_rfl) (by kernel_rfl) (by kernel_rfl) (by kernel_rfl) (by kernel_rfl) (fun _ _ _ h => h) (Or.inl ⟨by rfl, ?_⟩) (HSX.out.ext (Ext.trans (Ext.drew w6) (Ext.trans EX1.out (Ext.trans EX2.out EX3.out)))) ?_
                rotate_left
                · intro W hW; obtain ⟨s1, s2, s3, s4, s5, s6⟩ := hW; first | (go_simp; done) | (go_simp; with_reducible rfl)
                try simp only [Act.put, setIfInBounds_toArray, set_cons_zero, set_cons_succ]
                refine AnyZ.step (i := 22) rfl (by kernel_rfl) (fun K hK => ?_)
                go_simp
                go_at_call 49
                with_reducible refine (HA22.out _ _ _ (Ext.trans (Ext.drew w6) (Ext.trans EX1.out (Ext.trans EX2.out EX3.out))) (CB2.out.ext EX3.out)).mono ?_
                rintro e wn4 ⟨v4, rfl, t4, e4⟩
                have EX4 := hide e4
                obtain ⟨tsA, tsn, tsc, thA, thn, thc, tzA, tzn, tzc, tkA, tkn, tkc, tcA, tcn, tcc, tpA, tpn, tpc, rfl, ta4, _⟩ := t4
                have HFW := hide (cmp_fw ta4 HSML.out HCKL.out HPLL.out)
                have TB4 := hide ta4
                clear ta4 e4
                refine hK.out _ _ (fun h => HSX.out.ext (Ext.trans (Ext.drew w6) (Ext.trans EX1.out (Ext.trans EX2.out (Ext.trans EX3.out EX4.out))))) ?_
                clear hK K
                try simp only [Act.put, setIfInBounds_toArray, set_cons_zero, set_cons_succ]
                refine AnyZ.step (i := 23) rfl (by kernel_rfl) (fun K hK => ?_)
                go_simp
                go_at_call 48
                with_reducible refine (tableBytes_in TB4.out rfl HFW.out).mono ?_
                rintro e wn5 ⟨bA5, bn5, bc5, rfl, o5, e5⟩
                have EX5 := hide e5
                obtain ⟨btA, btc, hbt, B5⟩ := BtP.own (B' := wh.heap.size) o5 (by have := (Ext.trans HEW.out (Ext.trans (Ext.drew w6) (Ext.trans EX1.out (Ext.trans EX2.out (Ext.trans EX3.out EX4.out))))).size; omega)
                rw [hbt]
                have BB5 := hide B5
                clear o5 e5 B5 hbt
                refine hK.out _ _ (fun h => HSX.out.ext (Ext.trans (Ext.drew w6) (Ext.trans EX1.out (Ext.trans EX2.out (Ext.trans EX3.out (Ext.trans EX4.out EX5.out)))))) ?_
                clear hK K
                try simp only [Act.put, setIfInBounds_toArray, set_cons_zero, set_cons_succ]
                refine AnyZ.takeE (i := 24) (d := 69) (oi := _) (v := ?_) rfl rfl rfl (by kernel_rfl) (by kernel_rfl) (by kernel_rfl) (by kernel_rfl) (by kernel_rfl) (by kernel_rfl) (fun _ _ _ h => h) (Or.inl ⟨by rfl, ?_⟩) (HSX.out.ext (Ext.trans (Ext.drew w6) (Ext.trans EX1.out (Ext.trans EX2.out (Ext.trans EX3.out (Ext.trans EX4.out EX5.out)))))) ?_
                rotate_left
                · intro W hW; obtain ⟨s1, s2, s3, s4, s5, s6⟩ := hW; first | (go_simp; done) | (go_simp; with_reducible rfl)
                try simp only [Act.put, setIfInBounds_toArray, set_cons_zero, set_cons_succ]
                refine AnyZ.step (i := 25) rfl (by kernel_rfl) (fun K hK => ?_)
                go_simp
                have BX6 := hide (four_bxs (W := wn5) (B := wh.heap.size) (Ext.trans HEW.out (Ext.trans (Ext.drew w6) (Ext.trans EX1.out (Ext.trans EX2.out (Ext.trans EX3.out (Ext.trans EX4.out EX5.out)))))).size (NB3.out.ext (Ext.trans EX4.out EX5.out)) (RB1.out.ext (Ext.trans EX2.out (Ext.trans EX3.out (Ext.trans EX4.out EX5.out)))) (HBE.out.ext (Ext.trans (Ext.drew w6) (Ext.trans EX1.out (Ext.trans EX2.out (Ext.trans EX3.out (Ext.trans EX4.out EX5.out)))))) BB5.out)
                refine gen_hk hK fun wn6 hwn6 => ?_
                have EX6 : Hid (Ext wn5 wn6) := hide (by rw [hwn6]; exact Ext.alloc _ _)
                have BY6 : Hid (BxOk wn6 (G1 wh.heap.size wn6) ⟨kTrck, 0, none, 0, 0, some ⟨wn5.heap.size, 0, none⟩, 4, 4⟩ TB) := hide (by rw [hwn6, HTBE.out]; exact BX6.out)
                refine ⟨fun h => HSX.out.ext (Ext.trans (Ext.drew w6) (Ext.trans EX1.out (Ext.trans EX2.out (Ext.trans EX3.out (Ext.trans EX4.out (Ext.trans EX5.out EX6.out)))))), ?_⟩
                clear hK K hwn6 BX6
                try simp only [Act.put, setIfInBounds_toArray, set_cons_zero, set_cons_succ]
                refine AnyZ.takeE (i := 26) (d := 71) (oi := _) (v := ?_) rfl rfl rfl (by kernel_rfl) (by kernel_rfl) (by kernel_rfl) (by kernel_rfl) (by kernel_rfl) (by kernel_rfl) (fun _ _ _ h => h) (Or.inl ⟨by rfl, ?_⟩) (HSX.out.ext (Ext.trans (Ext.drew w6) (Ext.trans EX1.out (Ext.trans EX2.out (Ext.trans EX3.out (Ext.trans EX4.out (Ext.trans EX5.out EX6.out))))))) ?_
                rotate_left
                · intro W hW; obtain ⟨s1, s2, s3, s4, s5, s6⟩ := hW; first | (go_simp; done) | (go_simp; with_reducible rfl)
                try simp only [Act.put, setIfInBounds_toArray, set_cons_zero, set_cons_succ]
                refine AnyZ.step (i := 27) rfl (by kernel_rfl) (fun K hK => ?_)
                go_simp
                refine gen_hk hK fun wn7 hwn7 => ?_
                have EX7 : Hid (Ext wn6 wn7) := hide (by rw [hwn7]; exact Ext.alloc _ _)
                have AT7 : Hid (At wn7 4 eBx (some ⟨wn6.heap.size, 0, none⟩) 1 1 [(⟨kTrck, 0, none, 0, 0, some ⟨wn5.heap.size, 0, none⟩, 4, 4⟩ : BoxH)]) := hide (by rw [hwn7]; exact At.newE (enc := eBx) wn6 _ _ _ rfl)
                refine ⟨fun h => HSX.out.ext (Ext.trans (Ext.drew w6) (Ext.trans EX1.out (Ext.trans EX2.out (Ext.trans EX3.out (Ext.trans EX4.out (Ext.trans EX5.out (Ext.trans EX6.out EX7.out))))))), ?_⟩
                clear hK K hwn7
                try simp only [Act.put, setIfInBounds_toArray, set_cons_zero, set_cons_succ]
                refine AnyZ.step (i := 28) rfl (by kernel_rfl) (fun K hK => ?_)
                have EA := hide (Ext.trans HEW.out (Ext.trans (Ext.drew w6) (Ext.trans EX1.out (Ext.trans EX2.out (Ext.trans EX3.out (Ext.trans EX4.out (Ext.trans EX5.out (Ext.trans EX6.out EX7.out))))))))
                have OA := hide (HFH.out.row.own.ext EA.out)
                have SA : Hid (w0.heap.size ≤ wn7.heap.size) := hide (Nat.le_trans HFH.out.ext.size EA.out.size)
                refine step_append_at rfl _ _ 64 rfl w0.heap.size 66 i0_ _ 72 Try.underlying64 hi0 hz0 hz1 hz2 rfl (by omega) len_eBx one_eBx v hk (by rfl) OA.out (some ⟨wn6.heap.size, 0, none⟩) 1 1 _ (by rfl) AT7.out S1.out.1 S1.out.2 SA.out ?_
                intro v9 w9 o9 g9 _ r9
                obtain ⟨A9, c9_, hv9, _⟩ := o9.at_ len_eBx
                generalize (hk ++ [_]).length = n9_ at hv9
                subst hv9
                have F9 := hide (HFH.out.snoc EA.out (okG1 BY6.out EX7.out) o9 g9 r9)
                have M9 := hide (HFH.out.mid EA.out g9)
                have SX9 := hide ((HSX.out.ext (Ext.trans (Ext.drew w6) (Ext.trans EX1.out (Ext.trans EX2.out (Ext.trans EX3.out (Ext.trans EX4.out (Ext.trans EX5.out (Ext.trans EX6.out EX7.out)))))))).grow g9 HNB.out.1 HNB.out.2.1 HNB.out.2.2)
                clear o9 g9 r9
                refine hK.out _ _ (fun h => SX9.out) ?_
                clear hK K
                try simp only [Act.put, setIfInBounds_toArray, set_cons_zero, set_cons_succ]
                have c9 : w9.cell? ⟨xb, 3, none⟩ = some v := M9.out.cell 3
                have f9 := M9.out.frozen 3
                refine AnyZ.step (i := 29) rfl (by kernel_rfl) (fun K hK => ?_)
                go_simp
                refine hK.out _ _ (fun h => ?_) ?_
                · exact absurd (h.symm.trans (show _ = true by kernel_rfl)) (by simp)
                clear hK K
                try simp only [Act.put, setIfInBounds_toArray, set_cons_zero, set_cons_succ]
                refine AnyZ.step (i := 30) rfl (by kernel_rfl) (fun K hK => ?_)
                go_simp
                refine hK.out _ _ (fun h => ?_) ?_
                · exact absurd (h.symm.trans (show _ = true by kernel_rfl)) (by simp)
                clear hK K
                try simp only [Act.put, setIfInBounds_toArray, set_cons_zero, set_cons_succ]
                refine AnyZ.done (by kernel_rfl) ?_ _
                clear c9 f9 SX9 M9
                go_wp2_with fail
                exact ⟨⟨i + 1, _, _, by omega, by go_num, hide (by rw [HKS1.out, HKS.out]; exact F9.out)⟩, by simp [intOf]; omega⟩
              · go_simp
                go_at_call 49
                with_reducible refine (HA22.out _ _ _ (Ext.trans (Ext.drew w6) (Ext.trans EX1.out EX2.out)) CB2.out).mono ?_
                rintro e wn3 ⟨v3, rfl, t3, e3⟩
                have EX3 := hide e3
                obtain ⟨tsA, tsn, tsc, thA, thn, thc, tzA, tzn, tzc, tkA, tkn, tkc, tcA, tcn, tcc, tpA, tpn, tpc, rfl, ta3, _⟩ := t3
                have HFW := hide (cmp_fw ta3 HSML.out HCKL.out HPLL.out)
                have TB3 := hide ta3
                clear ta3 e3
                refine hK.out _ _ (fun h => HSX.out.ext (Ext.trans (Ext.drew w6) (Ext.trans EX1.out (Ext.trans EX2.out EX3.out)))) ?_
                clear hK K
                try simp only [Act.put, setIfInBounds_toArray, set_cons_zero, set_cons_succ]
                refine AnyZ.many (i := 4) (r := [23]) (by kernel_rfl) (AllZ.cons rfl (fun K hK => ?_) (AllZ.cons rfl (fun K hK => ?_) trivial))
                · have hcv := conv_str wn3 xn
                  go_simp
                  obtain ⟨wn4, hwn4⟩ : ∃ w, w = Go.Lib.bytesWorld wn3 5 ⟨xn.toArray⟩ := ⟨_, rfl⟩
                  have EX4 : Hid (Ext wn3 wn4) := hide (by rw [hwn4]; exact bytesW_ext _ _ _)
                  have NB4 := hide (show BtP wn4 wh.heap.size _ _ _ xn by rw [hwn4]; exact (bytesW_at wn3 xn (by have := HNL.out; omega)).low (Ext.trans HEW.out (Ext.trans (Ext.drew w6) (Ext.trans EX1.out (Ext.trans EX2.out EX3.out)))).size)
                  rw [← hwn4]
                  clear hwn4 hcv
                  refine hK.out _ _ (fun h => HSX.out.ext (Ext.trans (Ext.drew w6) (Ext.trans EX1.out (Ext.trans EX2.out (Ext.trans EX3.out EX4.out))))) ?_
                  clear hK K
                  try simp only [Act.put, setIfInBounds_toArray, set_cons_zero, set_cons_succ]
                  refine AnyZ.takeE (i := 5) (d := 50) (oi := _) (v := ?_) rfl rfl rfl (by kernel_rfl) (by kernel_rfl) (by kernel_rfl) (by kernel_rfl) (by kernel_rfl) (by kernel_rfl) (fun _ _ _ h => h) (Or.inl ⟨by rfl, ?_⟩) (HSX.out.ext (Ext.trans (Ext.drew w6) (Ext.trans EX1.out (Ext.trans EX2.out (Ext.trans EX3.out EX4.out))))) ?_
                  rotate_left
                  · intro W hW; obtain ⟨s1, s2, s3, s4, s5, s6⟩ := hW; first | (go_simp; done) | (go_simp; with_reducible rfl)
                  try simp only [Act.put, setIfInBounds_toArray, set_cons_zero, set_cons_succ]
                  refine AnyZ.step (i := 23) rfl (by kernel_rfl) (fun K hK => ?_)
                  go_simp
                  go_at_call 48
                  with_reducible refine (tableBytes_in (TB3.out.ext EX4.out) rfl HFW.out).mono ?_
                  rintro e wn5 ⟨bA5, bn5, bc5, rfl, o5, e5⟩
                  have EX5 := hide e5
                  obtain ⟨btA, btc, hbt, B5⟩ := BtP.own (B' := wh.heap.size) o5 (by have := (Ext.trans HEW.out (Ext.trans (Ext.drew w6) (Ext.trans EX1.out (Ext.trans EX2.out (Ext.trans EX3.out EX4.out))))).size; omega)
                  rw [hbt]
                  have BB5 := hide B5
                  clear o5 e5 B5 hbt
                  refine hK.out _ _ (fun h => HSX.out.ext (Ext.trans (Ext.drew w6) (Ext.trans EX1.out (Ext.trans EX2.out (Ext.trans EX3.out (Ext.trans EX4.out EX5.out)))))) ?_
                  clear hK K
                  try simp only [Act.put, setIfInBounds_toArray, set_cons_zero, set_cons_succ]
                  refine AnyZ.takeE (i := 24) (d := 69) (oi := _) (v := ?_) rfl rfl rfl (by kernel_rfl) (by kernel_rfl) (by kernel_rfl) (by kernel_rfl) (by kernel_rfl) (by kernel_rfl) (fun _ _ _ h => h) (Or.inl ⟨by rfl, ?_⟩) (HSX.out.ext (Ext.trans (Ext.drew w6) (Ext.trans EX1.out (Ext.trans EX2.out (Ext.trans EX3.out (Ext.trans EX4.out EX5.out)))))) ?_
                  rotate_left
                  · intro W hW; obtain ⟨s1, s2, s3, s4, s5, s6⟩ := hW; first | (go_simp; done) | (go_simp; with_reducible rfl)
                  try simp only [Act.put, setIfInBounds_toArray, set_cons_zero, set_cons_succ]
                  refine AnyZ.step (i := 25) rfl (by kernel_rfl) (fun K hK => ?_)
                  go_simp
                  have BX6 := hide (four_bxs (W := wn5) (B := wh.heap.size) (Ext.trans HEW.out (Ext.trans (Ext.drew w6) (Ext.trans EX1.out (Ext.trans EX2.out (Ext.trans EX3.out (Ext.trans EX4.out EX5.out)))))).size (NB4.out.ext EX5.out) (RB1.out.ext (Ext.trans EX2.out (Ext.trans EX3.out (Ext.trans EX4.out EX5.out)))) (HBE.out.ext (Ext.trans (Ext.drew w6) (Ext.trans EX1.out (Ext.trans EX2.out (Ext.trans EX3.out (Ext.trans EX4.out EX5.out)))))) BB5.out)
                  refine gen_hk hK fun wn6 hwn6 => ?_
                  have EX6 : Hid (Ext wn5 wn6) := hide (by rw [hwn6]; exact Ext.alloc _ _)
                  have BY6 : Hid (BxOk wn6 (G1 wh.heap.size wn6) ⟨kTrck, 0, none, 0, 0, some ⟨wn5.heap.size, 0, none⟩, 4, 4⟩ TB) := hide (by rw [hwn6, HTBE.out]; exact BX6.out)
                  refine ⟨fun h => HSX.out.ext (Ext.trans (Ext.drew w6) (Ext.trans EX1.out (Ext.trans EX2.out (Ext.trans EX3.out (Ext.trans EX4.out (Ext.trans EX5.out EX6.out)))))), ?_⟩
                  clear hK K hwn6 BX6
                  try simp only [Act.put, setIfInBounds_toArray, set_cons_zero, set_cons_succ]
                  refine AnyZ.takeE (i := 26) (d := 71) (oi := _) (v := ?_) rfl rfl rfl (by kernel_rfl) (by kernel_rfl) (by kernel_rfl) (by kernel_rfl) (by kernel_rfl) (by kernel_rfl) (fun _ _ _ h => h) (Or.inl ⟨by rfl, ?_⟩) (HSX.out.ext (Ext.trans (Ext.drew w6) (Ext.trans EX1.out (Ext.trans EX2.out (Ext.trans EX3.out (Ext.trans EX4.out (Ext.trans EX5.out EX6.out))))))) ?_
                  rotate_left
                  · intro W hW; obtain ⟨s1, s2, s3, s4, s5, s6⟩ := hW; first | (go_simp; done) | (go_simp; with_reducible rfl)
                  try simp only [Act.put, setIfInBounds_toArray, set_cons_zero, set_cons_succ]
                  refine AnyZ.step (i := 27) rfl (by kernel_rfl) (fun K hK => ?_)
                  go_simp
                  refine gen_hk hK fun wn7 hwn7 => ?_
                  have EX7 : Hid (Ext wn6 wn7) := hide (by rw [hwn7]; exact Ext.alloc _ _)
                  have AT7 : Hid (At wn7 4 eBx (some ⟨wn6.heap.size, 0, none⟩) 1 1 [(⟨kTrck, 0, none, 0, 0, some ⟨wn5.heap.size, 0, none⟩, 4, 4⟩ : BoxH)]) := hide (by rw [hwn7]; exact At.newE (enc := eBx) wn6 _ _ _ rfl)
                  refine ⟨fun h => HSX.out.ext (Ext.trans (Ext.drew w6) (Ext.trans EX1.out (Ext.trans EX2.out (Ext.trans EX3.out (Ext.trans EX4.out (Ext.trans EX5.out (Ext.trans EX6.out EX7.out))))))), ?_⟩
                  clear hK K hwn7
                  try simp only [Act.put, setIfInBounds_toArray, set_cons_zero, set_cons_succ]
                  refine AnyZ.step (i := 28) rfl (by kernel_rfl) (fun K hK => ?_)
                  have EA := hide (Ext.trans HEW.out (Ext.trans (Ext.drew w6) (Ext.trans EX1.out (Ext.trans EX2.out (Ext.trans EX3.out (Ext.trans EX4.out (Ext.trans EX5.out (Ext.trans EX6.out EX7.out))))))))
                  have OA := hide (HFH.out.row.own.ext EA.out)
                  have SA : Hid (w0.heap.size ≤ wn7.heap.size) := hide (Nat.le_trans HFH.out.ext.size EA.out.size)
                  refine step_append_at rfl _ _ 64 rfl w0.heap.size 66 i0_ _ 72 Try.underlying64 hi0 hz0 hz1 hz2 rfl (by omega) len_eBx one_eBx v hk (by rfl) OA.out (some ⟨wn6.heap.size, 0, none⟩) 1 1 _ (by rfl) AT7.out S1.out.1 S1.out.2 SA.out ?_
                  intro v9 w9 o9 g9 _ r9
                  obtain ⟨A9, c9_, hv9, _⟩ := o9.at_ len_eBx
                  generalize (hk ++ [_]).length = n9_ at hv9
                  subst hv9
                  have F9 := hide (HFH.out.snoc EA.out (okG1 BY6.out EX7.out) o9 g9 r9)
                  have M9 := hide (HFH.out.mid EA.out g9)
                  have SX9 := hide ((HSX.out.ext (Ext.trans (Ext.drew w6) (Ext.trans EX1.out (Ext.trans EX2.out (Ext.trans EX3.out (Ext.trans EX4.out (Ext.trans EX5.out (Ext.trans EX6.out EX7.out)))))))).grow g9 HNB.out.1 HNB.out.2.1 HNB.out.2.2)
                  clear o9 g9 r9
                  refine hK.out _ _ (fun h => SX9.out) ?_
                  clear hK K
                  try simp only [Act.put, setIfInBounds_toArray, set_cons_zero, set_cons_succ]
                  have c9 : w9.cell? ⟨xb, 3, none⟩ = some v := M9.out.cell 3
                  have f9 := M9.out.frozen 3
                  refine AnyZ.step (i := 29) rfl (by kernel_rfl) (fun K hK => ?_)
                  go_simp
                  refine hK.out _ _ (fun h => ?_) ?_
                  · exact absurd (h.symm.trans (show _ = true by kernel_rfl)) (by simp)
                  clear hK K
                  try simp only [Act.put, setIfInBounds_toArray, set_cons_zero, set_cons_succ]
                  refine AnyZ.step (i := 30) rfl (by kernel_rfl) (fun K hK => ?_)
                  go_simp
                  refine hK.out _ _ (fun h => ?_) ?_
                  · exact absurd (h.symm.trans (show _ = true by kernel_rfl)) (by simp)
                  clear hK K
                  try simp only [Act.put, setIfInBounds_toArray, set_cons_zero, set_cons_succ]
                  refine AnyZ.done (by kernel_rfl) ?_ _
                  clear c9 f9 SX9 M9
                  go_wp2_with fail
                  exact ⟨⟨i + 1, _, _, by omega, by go_num, hide (by rw [HKS1.out, HKS.out]; exact F9.out)⟩, by simp [intOf]; omega⟩
                · go_simp
                  go_at_call 48
                  with_reducible refine (tableBytes_in TB3.out rfl HFW.out).mono ?_
                  rintro e wn4 ⟨bA4, bn4, bc4, rfl, o4, e4⟩
                  have EX4 := hide e4
                  obtain ⟨btA, btc, hbt, B4⟩ := BtP.own (B' := wh.heap.size) o4 (by have := (Ext.trans HEW.out (Ext.trans (Ext.drew w6) (Ext.trans EX1.out (Ext.trans EX2.out EX3.out)))).size; omega)
                  rw [hbt]
                  have BB4 := hide B4
                  clear o4 e4 B4 hbt
                  refine hK.out _ _ (fun h => HSX.out.ext (Ext.trans (Ext.drew w6) (Ext.trans EX1.out (Ext.trans EX2.out (Ext.trans EX3.out EX4.out))))) ?_
                  clear hK K
                  try simp only [Act.put, setIfInBounds_toArray, set_cons_zero, set_cons_succ]
                  refine AnyZ.takeE (i := 24) (d := 69) (oi := _) (v := ?_) rfl rfl rfl (by kernel_rfl) (by kernel_rfl) (by kernel_rfl) (by kernel_rfl) (by kernel_rfl) (by kernel_rfl) (fun _ _ _ h => h) (Or.inl ⟨by rfl, ?_⟩) (HSX.out.ext (Ext.trans (Ext.drew w6) (Ext.trans EX1.out (Ext.trans EX2.out (Ext.trans EX3.out EX4.out))))) ?_
                  rotate_left
                  · intro W hW; obtain ⟨s1, s2, s3, s4, s5, s6⟩ := hW; first | (go_simp; done) | (go_simp; with_reducible rfl)
                  try simp only [Act.put, setIfInBounds_toArray, set_cons_zero, set_cons_succ]
                  refine AnyZ.step (i := 4) rfl (by kernel_rfl) (fun K hK => ?_)
                  have hcv := conv_str wn4 xn
                  go_simp
                  obtain ⟨wn5, hwn5⟩ : ∃ w, w = Go.Lib.bytesWorld wn4 5 ⟨xn.toArray⟩ := ⟨_, rfl⟩
                  have EX5 : Hid (Ext wn4 wn5) := hide (by rw [hwn5]; exact bytesW_ext _ _ _)
                  have NB5 := hide (show BtP wn5 wh.heap.size _ _ _ xn by rw [hwn5]; exact (bytesW_at wn4 xn (by have := HNL.out; omega)).low (Ext.trans HEW.out (Ext.trans (Ext.drew w6) (Ext.trans EX1.out (Ext.trans EX2.out (Ext.trans EX3.out EX4.out))))).size)
                  rw [← hwn5]
                  clear hwn5 hcv
                  refine hK.out _ _ (fun h => HSX.out.ext (Ext.trans (Ext.drew w6) (Ext.trans EX1.out (Ext.trans EX2.out (Ext.trans EX3.out (Ext.trans EX4.out EX5.out)))))) ?_
                  clear hK K
                  try simp only [Act.put, setIfInBounds_toArray, set_cons_zero, set_cons_succ]
                  refine AnyZ.takeE (i := 5) (d := 50) (oi := _) (v := ?_) rfl rfl rfl (by kernel_rfl) (by kernel_rfl) (by kernel_rfl) (by kernel_rfl) (by kernel_rfl) (by kernel_rfl) (fun _ _ _ h => h) (Or.inl ⟨by rfl, ?_⟩) (HSX.out.ext (Ext.trans (Ext.drew w6) (Ext.trans EX1.out (Ext.trans EX2.out (Ext.trans EX3.out (Ext.trans EX4.out EX5.out)))))) ?_
                  rotate_left
                  · intro W hW; obtain ⟨s1, s2, s3, s4, s5, s6⟩ := hW; first | (go_simp; done) | (go_simp; with_reducible rfl)
                  try simp only [Act.put, setIfInBounds_toArray, set_cons_zero, set_cons_succ]
                  refine AnyZ.step (i := 25) rfl (by kernel_rfl) (fun K hK => ?_)
                  go_simp
                  have BX6 := hide (four_bxs (W := wn5) (B := wh.heap.size) (Ext.trans HEW.out (Ext.trans (Ext.drew w6) (Ext.trans EX1.out (Ext.trans EX2.out (Ext.trans EX3.out (Ext.trans EX4.out EX5.out)))))).size NB5.out (RB1.out.ext (Ext.trans EX2.out (Ext.trans EX3.out (Ext.trans EX4.out EX5.out)))) (HBE.out.ext (Ext.trans (Ext.drew w6) (Ext.trans EX1.out (Ext.trans EX2.out (Ext.trans EX3.out (Ext.trans EX4.out EX5.out)))))) (BB4.out.ext EX5.out))
                  refine gen_hk hK fun wn6 hwn6 => ?_
                  have EX6 : Hid (Ext wn5 wn6) := hide (by rw [hwn6]; exact Ext.alloc _ _)
                  have BY6 : Hid (BxOk wn6 (G1 wh.heap.size wn6) ⟨kTrck, 0, none, 0, 0, some ⟨wn5.heap.size, 0, none⟩, 4, 4⟩ TB) := hide (by rw [hwn6, HTBE.out]; exact BX6.out)
                  refine ⟨fun h => HSX.out.ext (Ext.trans (Ext.drew w6) (Ext.trans EX1.out (Ext.trans EX2.out (Ext.trans EX3.out (Ext.trans EX4.out (Ext.trans EX5.out EX6.out)))))), ?_⟩
                  clear hK K hwn6 BX6
                  try simp only [Act.put, setIfInBounds_toArray, set_cons_zero, set_cons_succ]
                  refine AnyZ.takeE (i := 26) (d := 71) (oi := _) (v := ?_) rfl rfl rfl (by kernel_rfl) (by kernel_rfl) (by kernel_rfl) (by kernel_rfl) (by kernel_rfl) (by kernel_rfl) (fun _ _ _ h => h) (Or.inl ⟨by rfl, ?_⟩) (HSX.out.ext (Ext.trans (Ext.drew w6) (Ext.trans EX1.out (Ext.trans EX2.out (Ext.trans EX3.out (Ext.trans EX4.out (Ext.trans EX5.out EX6.out))))))) ?_
                  rotate_left
                  · intro W hW; obtain ⟨s1, s2, s3, s4, s5, s6⟩ := hW; first | (go_simp; done) | (go_simp; with_reducible rfl)
                  try simp only [Act.put, setIfInBounds_toArray, set_cons_zero, set_cons_succ]
                  refine AnyZ.step (i := 27) rfl (by kernel_rfl) (fun K hK => ?_)
                  go_simp
                  refine gen_hk hK fun wn7 hwn7 => ?_
                  have EX7 : Hid (Ext wn6 wn7) := hide (by rw [hwn7]; exact Ext.alloc _ _)
                  have AT7 : Hid (At wn7 4 eBx (some ⟨wn6.heap.size, 0, none⟩) 1 1 [(⟨kTrck, 0, none, 0, 0, some ⟨wn5.heap.size, 0, none⟩, 4, 4⟩ : BoxH)]) := hide (by rw [hwn7]; exact At.newE (enc := eBx) wn6 _ _ _ rfl)
                  refine ⟨fun h => HSX.out.ext (Ext.trans (Ext.drew w6) (Ext.trans EX1.out (Ext.trans EX2.out (Ext.trans EX3.out (Ext.trans EX4.out (Ext.trans EX5.out (Ext.trans EX6.out EX7.out))))))), ?_⟩
                  clear hK K hwn7
                  try simp only [Act.put, setIfInBounds_toArray, set_cons_zero, set_cons_succ]
                  refine AnyZ.step (i := 28) rfl (by kernel_rfl) (fun K hK => ?_)
                  have EA := hide (Ext.trans HEW.out (Ext.trans (Ext.drew w6) (Ext.trans EX1.out (Ext.trans EX2.out (Ext.trans EX3.out (Ext.trans EX4.out (Ext.trans EX5.out (Ext.trans EX6.out EX7.out))))))))
                  have OA := hide (HFH.out.row.own.ext EA.out)
                  have SA : Hid (w0.heap.size ≤ wn7.heap.size) := hide (Nat.le_trans HFH.out.ext.size EA.out.size)
                  refine step_append_at rfl _ _ 64 rfl w0.heap.size 66 i0_ _ 72 Try.underlying64 hi0 hz0 hz1 hz2 rfl (by omega) len_eBx one_eBx v hk (by rfl) OA.out (some ⟨wn6.heap.size, 0, none⟩) 1 1 _ (by rfl) AT7.out S1.out.1 S1.out.2 SA.out ?_
                  intro v9 w9 o9 g9 _ r9
                  obtain ⟨A9, c9_, hv9, _⟩ := o9.at_ len_eBx
                  generalize (hk ++ [_]).length = n9_ at hv9
                  subst hv9
                  have F9 := hide (HFH.out.snoc EA.out (okG1 BY6.out EX7.out) o9 g9 r9)
                  have M9 := hide (HFH.out.mid EA.out g9)
                  have SX9 := hide ((HSX.out.ext (Ext.trans (Ext.drew w6) (Ext.trans EX1.out (Ext.trans EX2.out (Ext.trans EX3.out (Ext.trans EX4.out (Ext.trans EX5.out (Ext.trans EX6.out EX7.out)))))))).grow g9 HNB.out.1 HNB.out.2.1 HNB.out.2.2)
                  clear o9 g9 r9
                  refine hK.out _ _ (fun h => SX9.out) ?_
                  clear hK K
                  try simp only [Act.put, setIfInBounds_toArray, set_cons_zero, set_cons_succ]
                  have c9 : w9.cell? ⟨xb, 3, none⟩ = some v := M9.out.cell 3
                  have f9 := M9.out.frozen 3
                  refine AnyZ.step (i := 29) rfl (by kernel_rfl) (fun K hK => ?_)
                  go_simp
                  refine hK.out _ _ (fun h => ?_) ?_
                  · exact absurd (h.symm.trans (show _ = true by kernel_rfl)) (by simp)
                  clear hK K
                  try simp only [Act.put, setIfInBounds_toArray, set_cons_zero, set_cons_succ]
                  refine AnyZ.step (i := 30) rfl (by kernel_rfl) (fun K hK => ?_)
                  go_simp
                  refine hK.out _ _ (fun h => ?_) ?_
                  · exact absurd (h.symm.trans (show _ = true by kernel_rfl)) (by simp)
                  clear hK K
                  try simp only [Act.put, setIfInBounds_toArray, set_cons_zero, set_cons_succ]
                  refine AnyZ.done (by kernel_rfl) ?_ _
                  clear c9 f9 SX9 M9
                  go_wp2_with fail
                  exact ⟨⟨i + 1, _, _, by omega, by go_num, hide (by rw [HKS1.out, HKS.out]; exact F9.out)⟩, by simp [intOf]; omega⟩
    · obtain rfl : i = n := by omega
      obtain ⟨kA2, kc2, hv2, _⟩ := HF.out.row.own.at_ len_eBx
      subst hv2
      have b0 : wr.cell? ⟨xb, 0, none⟩ = some (.string ⟨kFilm.toArray⟩) := HF.out.cell.cell 0
      have b1 : wr.cell? ⟨xb, 1, none⟩ = some (.int .i64 0) := HF.out.cell.cell 1
      have b2 : wr.cell? ⟨xb, 2, none⟩ = some (.slice none 0 0) := HF.out.cell.cell 2
      have b3 : wr.cell? ⟨xb, 3, none⟩ = some (.slice kA2 hk.length kc2) := HF.out.cell.cell 3
      have RR := hide (R0.out.ext HF.out.ext)
      have r0 : wr.cell? ⟨rb, 0, none⟩ = some (.string ByteArray.empty) := RR.out.cell 0
      have r1 : wr.cell? ⟨rb, 1, none⟩ = some (.int .i64 0) := RR.out.cell 1
      have r2 : wr.cell? ⟨rb, 2, none⟩ = some (.slice none 0 0) := RR.out.cell 2
      have r3 : wr.cell? ⟨rb, 3, none⟩ = some (.slice none 0 0) := RR.out.cell 3
      have f0 : wr.frozen? ⟨rb, 0, none⟩ = false := RR.out.frozen 0
      have f1 : wr.frozen? ⟨rb, 1, none⟩ = false := RR.out.frozen 1
      have f2 : wr.frozen? ⟨rb, 2, none⟩ = false := RR.out.frozen 2
      have f3 : wr.frozen? ⟨rb, 3, none⟩ = false := RR.out.frozen 3
      have HZ := hide Z0.out
      clear hlt
      go_wp2_with fail
      refine gen_bod fun V hV => ?_
      have RV : Hid (Blk V rb 66 #[.string ⟨kFilm.toArray⟩, .int .i64 0, .slice none 0 0, .slice kA2 hk.length kc2]) := hide (by rw [hV]; exact (((RR.out.set_ 0 _).set_ 1 _).set_ 2 _).set_ 3 _)
      have TV : Hid (Tw wr V rb none) := hide (by rw [hV]; exact (((Tw.set_ _ _ _ _ _).trans (Tw.set_ _ _ _ _ _)).trans (Tw.set_ _ _ _ _ _)).trans (Tw.set_ _ _ _ _ _))
      clear hV b0 b1 b2 b3 r0 r1 r2 r3 f0 f1 f2 f3
      have v0 : V.cell? ⟨rb, 0, none⟩ = some (.string ⟨kFilm.toArray⟩) := RV.out.cell 0
      have v1 : V.cell? ⟨rb, 1, none⟩ = some (.int .i64 0) := RV.out.cell 1
      have v2 : V.cell? ⟨rb, 2, none⟩ = some (.slice none 0 0) := RV.out.cell 2
      have v3 : V.cell? ⟨rb, 3, none⟩ = some (.slice kA2 hk.length kc2) := RV.out.cell 3
      refine bodyPost_ret (v := .agg #[.string ⟨kFilm.toArray⟩, .int .i64 0, .slice none 0 0, .slice kA2 hk.length kc2]) (by simp [results, Try.results24, go_sem, v0, v1, v2, v3]) rfl ?_
      refine ⟨kA2, _, kc2, rfl, HF.out.row.at_.good (fun k hk => TV.out.block k hk.2 (by have := hk.1; have := HZ.out; have := HRB.out; omega) (by simp)) (fun k hk => ⟨by have := hk.1; have := HZ.out; omega, by have := hk.2; have := TV.out.size; omega⟩), ?_⟩
      exact tw_ext' (Ext.trans E0.out HF.out.ext) TV.out (by have := HRB.out; omega)
end Go.Proofs.Ytkbmgakehlmcnaa
