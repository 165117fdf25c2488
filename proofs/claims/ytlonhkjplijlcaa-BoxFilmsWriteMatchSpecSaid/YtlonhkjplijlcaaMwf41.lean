/- Walk: boxesOf (reference). Conditions as stated. Printed by bxoR.py. -/
import Derived.Test.YtlonhkjplijlcaaMwf33
namespace Go.Proofs.Ytlonhkjplijlcaa
open Go.RowKit
/-- What boxesOf gives. -/
def BxG (w : World) (l : List BoxT) (e : Ending) (w' : World) : Prop := ∃ g, e = .returned (.slice (some ⟨g, 0, none⟩) 2 2) ∧ BxsAt w' (fun _ => True) (some ⟨g, 0, none⟩) 2 2 l ∧ Ext w w'
/-- The table of a round, in a block of its own. -/
def TbM (w6 W : World) (tq : Nat) (t : Tab) : Prop :=
  ∃ sA sn sc hA hn hc zA zn zc kA kn kc cA cn cc pA pn pc, Blk W tq 73 #[.int .i64 t.start, .slice sA sn sc, .slice hA hn hc, .slice zA zn zc, .slice kA kn kc, .slice cA cn cc, .slice pA pn pc] ∧ TabAt W sA sn sc hA hn hc zA zn zc kA kn kc cA cn cc pA pn pc t ∧ w6.heap.size ≤ tq ∧ Ext w6 W
theorem tab_old {W W' W'' : World} {o : Nat} {sA : Option Addr} {sn sc : Nat} {hA : Option Addr} {hn hc : Nat} {zA : Option Addr} {zn zc : Nat} {kA : Option Addr} {kn kc : Nat} {cA : Option Addr} {cn cc : Nat} {pA : Option Addr} {pn pc : Nat} {t : Tab}
    (h : TabAt W sA sn sc hA hn hc zA zn zc kA kn kc cA cn cc pA pn pc t) (he : Ext W W') (hT : Tw W' W'' o none) (ho : W.heap.size ≤ o) : TabAt W'' sA sn sc hA hn hc zA zn zc kA kn kc cA cn cc pA pn pc t :=
  ⟨(h.steps.ext he).twn hT (fun hn a ha => by have := h.steps.blk_lt len_e2 (by omega) hn a ha; omega), (h.shifts.ext he).twn hT (fun hn a ha => by have := h.shifts.blk_lt len_e2 (by omega) hn a ha; omega), (h.sizes.ext he).twn hT (fun hn a ha => by have := h.sizes.blk_lt len_e64 (by omega) hn a ha; omega), (h.keys.ext he).twn hT (fun hn a ha => by have := h.keys.blk_lt len_e64 (by omega) hn a ha; omega), h.nok, (h.chunks.ext he).twn hT (fun hn a ha => by have := h.chunks.blk_lt len_e2 (by omega) hn a ha; omega), (h.places.ext he).twn hT (fun hn a ha => by have := h.places.blk_lt len_e64 (by omega) hn a ha; omega)⟩
theorem tab_new {W' W'' : World} {o B : Nat} {sA : Option Addr} {sn sc : Nat} {hA : Option Addr} {hn hc : Nat} {zA : Option Addr} {zn zc : Nat} {kA : Option Addr} {kn kc : Nat} {cA : Option Addr} {cn cc : Nat} {pA : Option Addr} {pn pc : Nat} {t : Tab}
    (h : TabAt W' sA sn sc hA hn hc zA zn zc kA kn kc cA cn cc pA pn pc t) (hB : ∀ a : Addr, (sA = some a ∨ hA = some a ∨ zA = some a ∨ kA = some a ∨ cA = some a ∨ pA = some a) → B ≤ a.block) (hT : Tw W' W'' o none) (ho : o < B) : TabAt W'' sA sn sc hA hn hc zA zn zc kA kn kc cA cn cc pA pn pc t :=
  ⟨h.steps.twn hT (fun _ a ha => by have := hB a (.inl ha); omega), h.shifts.twn hT (fun _ a ha => by have := hB a (.inr (.inl ha)); omega), h.sizes.twn hT (fun _ a ha => by have := hB a (.inr (.inr (.inl ha))); omega), h.keys.twn hT (fun _ a ha => by have := hB a (.inr (.inr (.inr (.inl ha)))); omega), h.nok, h.chunks.twn hT (fun _ a ha => by have := hB a (.inr (.inr (.inr (.inr (.inl ha))))); omega), h.places.twn hT (fun _ a ha => by have := hB a (.inr (.inr (.inr (.inr (.inr ha))))); omega)⟩
/-- The cells that region 6 reads. -/
def S6 (tb gp i : Nat) (u2 u4 : Value) (V : World) : Prop := V.cell? ⟨tb, 2, none⟩ = some u2 ∧ V.cell? ⟨gp, i, none⟩ = some u4
theorem S6.ext {tb gp i : Nat} {u2 u4 : Value} {W V : World} (h : S6 tb gp i u2 u4 W) (he : Ext W V) : S6 tb gp i u2 u4 V := ⟨he.cell h.1, he.cell h.2⟩
/-- The cells that region 7 reads. -/
def S7 (tb tq : Nat) (u0 u1 u3 t0 t1 t2 t3 t4 t5 t6 : Value) (V : World) : Prop := V.cell? ⟨tb, 0, none⟩ = some u0 ∧ V.cell? ⟨tb, 1, none⟩ = some u1 ∧ V.cell? ⟨tb, 3, none⟩ = some u3 ∧ V.cell? ⟨tq, 0, none⟩ = some t0 ∧ V.cell? ⟨tq, 1, none⟩ = some t1 ∧ V.cell? ⟨tq, 2, none⟩ = some t2 ∧ V.cell? ⟨tq, 3, none⟩ = some t3 ∧ V.cell? ⟨tq, 4, none⟩ = some t4 ∧ V.cell? ⟨tq, 5, none⟩ = some t5 ∧ V.cell? ⟨tq, 6, none⟩ = some t6
section
variable {tb tq : Nat} {u0 u1 u3 t0 t1 t2 t3 t4 t5 t6 : Value} {W V : World}
theorem S7.keep (h : S7 tb tq u0 u1 u3 t0 t1 t2 t3 t4 t5 t6 W) (key : ∀ (q k : Nat) (u : Value), q = tb ∨ q = tq → W.cell? ⟨q, k, none⟩ = some u → V.cell? ⟨q, k, none⟩ = some u) : S7 tb tq u0 u1 u3 t0 t1 t2 t3 t4 t5 t6 V := by
  obtain ⟨h1, h2, h3, h4, h5, h6, h7, h8, h9, h10⟩ := h
  exact ⟨key _ _ _ (.inl rfl) h1, key _ _ _ (.inl rfl) h2, key _ _ _ (.inl rfl) h3, key _ _ _ (.inr rfl) h4, key _ _ _ (.inr rfl) h5, key _ _ _ (.inr rfl) h6, key _ _ _ (.inr rfl) h7, key _ _ _ (.inr rfl) h8, key _ _ _ (.inr rfl) h9, key _ _ _ (.inr rfl) h10⟩
theorem S7.ext (h : S7 tb tq u0 u1 u3 t0 t1 t2 t3 t4 t5 t6 W) (he : Ext W V) : S7 tb tq u0 u1 u3 t0 t1 t2 t3 t4 t5 t6 V := h.keep fun _ _ _ _ hc => he.cell hc
theorem S7.grow {row : Option Nat} (h : S7 tb tq u0 u1 u3 t0 t1 t2 t3 t4 t5 t6 W) (hg : W.grownBy V row) (h1 : row ≠ some tb) (h2 : row ≠ some tq) : S7 tb tq u0 u1 u3 t0 t1 t2 t3 t4 t5 t6 V :=
  h.keep fun q k u hq hc => cell_heap (hg.block q (by have := cell_lt hc; simpa using this) (fun e => by rcases hq with hq | hq <;> subst hq; exact h1 e.symm; exact h2 e.symm)) hc
end
set_option linter.unusedVariables false in
set_option linter.unusedSimpArgs false in
set_option maxRecDepth 100000 in
set_option maxHeartbeats 16000000 in
theorem boxesOf_any {sc : Int} {A : Option Addr} {n c : Nat} {hs : List TrkH} {T : List TrkT} {gp : Nat} {hp : List (Option Addr × Nat × Nat)} {pl : List (List Int)} {ov : Value} {ob : List UInt8} {ch : Nat} {dA : Option Addr} {dn dc : Nat} {dat : List UInt8} {wl w : World}
    (h : TksAt w A n c hs T) (hr : FilR T) (hn : nmS T) (hL : LaM wl w gp n hp pl [] ov ob) (h5 : ∀ i, (pl.getD i []).length ≤ 5000) (hc : 1 ≤ ch) (hc2 : ch ≤ 1000) (hdat : At w 1 e8 dA dn dc dat) :
    Calls Try.prog 25 #[.agg #[.int .i64 sc, .slice A n c], .int .i64 (ch : Int), .slice (some ⟨gp, 0, none⟩) n n, .slice dA dn dc] w (BxG w [.mk kFilm 0 [] (kidsB sc T ch pl n), dataB dat]) := by
  have HT := hide h
  have HLL := hide hL
  have HTL : Hid (T.length = n) := hide h.len
  have HR := hide (fun (i : Nat) (hi : i < n) => hr.smp i (by rw [h.len]; exact hi))
  have HRE := hide (fun (i : Nat) (hi : i < n) => hr.ed i (by rw [h.len]; exact hi))
  have HNM := hide (fun (i : Nat) (hi : i < n) => hn i (by rw [h.len]; exact hi))
  have H5 := hide h5
  have HDA := hide hdat
  have hn8 : n ≤ 8 := by have := hr.few; rw [h.len] at this; exact this
  have HCH := hide (fun (sn : Nat) (hs5 : sn ≤ 5000) (W : World) => refChunks_any (n := sn) (w := W) hs5 hc hc2)
  have HCN := hide (fun (k : Nat) => ckN_le (n := k) hc)
  obtain ⟨i0_, hi0, hz0, hz1, hz2⟩ := info_parts Try.info47
  clear h hr hn hL h5 hdat
  go_enter Try.func25, Try.ntmps25
  go_upto_region 1 with (fail)
  refine gen_wpC fun w0 h0 => ?_
  obtain ⟨fb, hfb⟩ : ∃ fb, fb = w.heap.size := ⟨_, rfl⟩
  have E0 : Hid (Ext w w0) := hide (by rw [h0]; exact Ext.alloc _ _)
  have X0 : Hid (Blk w0 fb 24 #[.int .i64 sc, .slice A n c]) := hide (by rw [h0, hfb]; exact Blk.new _ _ _)
  have Z0 : Hid (w0.heap.size = fb + 1) := hide (by rw [h0, hfb]; simp)
  rw [← hfb]
  have HFB := hide hfb
  clear h0 hfb
  have x0 : w0.cell? ⟨fb, 0, none⟩ = some (.int .i64 sc) := X0.out.cell 0
  have HW1 := hide (fun (W : World) => wrtO (w := W) (x := sc) 4 4 rfl (by omega))
  go_wp2_with fail
  with_reducible refine (HW1.out _).mono ?_
  rintro e w1 ⟨g1, rfl, o1, e1⟩
  have E1 := hide e1
  have HB1 : Hid (BtP w1 w0.heap.size (some ⟨g1, 0, none⟩) 4 4 (beN 4 (u64N sc))) := hide ⟨o1.atS len_e8, fun a ha => by injection ha with ha; subst ha; exact o1.lt g1 rfl⟩
  clear o1 e1 HW1 x0
  go_upto_region 2 with (fail)
  refine gen_wpC fun w2 h2 => ?_
  have F2 : Hid (RwO w2 w0.heap.size fb (.slice (some ⟨w1.heap.size, 0, none⟩) 1 1) [hdB kHead (some ⟨g1, 0, none⟩) 4 4] (kidsB sc T ch pl 0) ∧ Ext w0 w2) := hide (by
    have e1 := E1.out.size
    have hz := Z0.out
    rw [h2]
    exact ⟨RwO.lit _ [hdB kHead (some ⟨g1, 0, none⟩) 4 4] _ rfl e1 rfl (by simp) (fun k hk => by have := hk.1; omega) (by omega) (fun i y x hy hx => by
        match i, hy, hx with
        | 0, hy, hx =>
          simp at hy; subst hy
          simp [kidsB] at hx; subst hx
          exact HB1.out.leaf
        | i + 1, hy, hx => simp at hy), Ext.trans E1.out (Ext.alloc _ _)⟩)
  clear h2 HB1
  go_wp2_with fail
  go_loopw [9, 10] (fun r9 ri wr => ∃ (i : Nat) (hs' : List BoxH), i ≤ n ∧ ri = .int .i64 (i : Int) ∧ Hid (RwO wr w0.heap.size fb r9 hs' (kidsB sc T ch pl i) ∧ Ext w0 wr)) (fun _ ri _ => n - (intOf ri).toNat)
  case atStart => exact ⟨0, _, by omega, rfl, F2⟩
  case round =>
    clear F2 E1
    obtain ⟨i, hk, hi, rfl, HF⟩ := hrel
    have x1 : wr.cell? ⟨fb, 1, none⟩ = some (.slice A n c) := HF.out.2.cell (X0.out.cell 1)
    have i8 : IntKind.i64.wrap ((i : Int) + 1) = (i : Int) + 1 := by rw [IntKind.wrap_i64]; omega
    by_cases hlt : i < n
    · obtain ⟨b, o, rfl, _⟩ := HT.out.at_.addr (by omega)
      obtain ⟨wh, hwh⟩ : ∃ wh, wh = wr := ⟨_, rfl⟩
      have HFH : Hid (RwO wh w0.heap.size fb _ hk (kidsB sc T ch pl i) ∧ Ext w0 wh) := hide (by rw [hwh]; exact HF.out)
      have hat := HT.out.at_.ext (Ext.trans E0.out HF.out.2)
      have hok := HT.out.ok i hlt
      have HSZ := hide (HR.out i hlt)
      have HED := hide (HRE.out i hlt)
      have HNL := hide (HNM.out i hlt)
      have HKS : Hid (kidsB sc T ch pl (i + 1) = kidsB sc T ch pl i ++ [trkB (T.getD i default) ch (pl.getD i [])]) := hide rfl
      have HTB : Hid (trkB (T.getD i default) ch (pl.getD i []) = .mk kTrck 0 [] [leafB kName (T.getD i default).name, leafB kRate (beN 4 (u64N (T.getD i default).scale)), leafB kEdit (edB (T.getD i default).ed), leafB kTabl (tabBy (cmpT (T.getD i default).smp (ckL (T.getD i default).smp.length ch) (pl.getD i [])))]) := hide rfl
      obtain ⟨z, hz⟩ : ∃ z, hs.getD i default = z := ⟨_, rfl⟩
      rw [hz] at hok
      have a0 : wr.cell? ⟨b, o + i * 4, none⟩ = some (.string ⟨z.name.toArray⟩) := hat.cellK hlt default 0 _ (by rw [hz]; rfl)
      have a1 : wr.cell? ⟨b, o + i * 4 + 1, none⟩ = some (.int .i64 z.scale) := hat.cellK hlt default 1 _ (by rw [hz]; rfl)
      have a2 : wr.cell? ⟨b, o + i * 4 + 2, none⟩ = some (.slice z.sA z.sn z.sc) := hat.cellK hlt default 2 _ (by rw [hz]; rfl)
      have a3 : wr.cell? ⟨b, o + i * 4 + 3, none⟩ = some (.slice z.eA z.en z.ec) := hat.cellK hlt default 3 _ (by rw [hz]; rfl)
      rw [hok.1] at a0
      rw [hok.2.1] at a1
      have HS := hide hok.2.2.1
      have HE := hide hok.2.2.2
      have hsl := HS.out.len
      have hel := HE.out.len
      have HPR := hide (HLL.out.rows i hlt)
      have HPC := hide (HLL.out.row hlt)
      have HPL := hide (H5.out i)
      obtain ⟨rw_, hrw⟩ : ∃ x, hp.getD i dR = x := ⟨_, rfl⟩
      obtain ⟨rA, rn, rc⟩ := rw_
      rw [hrw] at HPR HPC
      have hrn : (pl.getD i []).length = rn := HPR.out.len len_e64
      have HPA := hide (HPR.out.atS len_e64)
      have hrn5 : rn ≤ 5000 := by have := HPL.out; omega
      have HKL : Hid ((kidsB sc T ch pl i).length ≤ 9) := hide (by rw [kidsB_len]; omega)
      generalize hKS1 : kidsB sc T ch pl (i + 1) = KS1 at *
      have HKS1 := hide hKS1
      clear hKS1
      generalize kidsB sc T ch pl i = KS0 at *
      generalize trkB (T.getD i default) ch (pl.getD i []) = TB at *
      generalize pl.getD i [] = pli at *
      generalize (T.getD i default).name = xn at *
      generalize (T.getD i default).scale = xs at *
      generalize (T.getD i default).smp = sm at *
      generalize (T.getD i default).ed = xe at *
      generalize z.sA = sA at *
      generalize z.sn = sn at *
      generalize z.sc = scc at *
      generalize z.eA = eA at *
      generalize z.en = en at *
      generalize z.ec = ec at *
      have hsn : sn ≤ 5000 := by have := HSZ.out.2; omega
      have hen : en ≤ 50 := by have := HED.out; omega
      have HSL := hide hsl
      have HEL := hide hel
      have i1 : (i : Int) < (n : Int) := by omega
      have i0 : (0 : Int) ≤ (i : Int) := by omega
      clear hat hok hz hsl hel hrn hrw HPR HPL
      go_upto_region 6 with (fail)
      refine gen_wpC fun w6 h6 => ?_
      obtain ⟨tb, htb⟩ : ∃ tb, tb = wr.heap.size := ⟨_, rfl⟩
      rw [← htb]
      have ER : Hid (Ext wh w6) := hide (by rw [h6, hwh]; exact Ext.alloc _ _)
      have HTBW : Hid (tb = wh.heap.size) := hide (by rw [htb, hwh])
      have X5 : Hid (Blk w6 tb 53 #[.string ⟨xn.toArray⟩, .int .i64 xs, .slice sA sn scc, .slice eA en ec]) := hide (by rw [h6, htb]; exact Blk.new _ _ _)
      have HGP : Hid (gp < w.heap.size) := hide (HLL.out.pls.lt gp rfl).2
      have HWH : Hid (Ext w wh) := hide (Ext.trans E0.out HFH.out.2)
      clear h6 htb a0 a1 a2 a3 x1
      have HWS : Hid (Ext w w6) := hide (Ext.trans HWH.out ER.out)
      have HSX : Hid (S6 tb gp i (.slice sA sn scc) (.slice rA rn rc) w6) := hide ⟨X5.out.cell 2, HWS.out.cell HPC.out⟩
      have HA6 := hide (HCH.out sn hsn)
      have hck := HCN.out sn
      have HCKL : Hid ((ckL sn ch).length ≤ 5000) := hide (by unfold ckL; rw [ckK_len]; omega)
      have HA11 := hide (fun (W : World) (cA : Option Addr) (cc : Nat) (he : Ext w6 W) (ha : At W 1 e64 cA (ckL sn ch).length cc (ckL sn ch)) => refCompact_in (HS.out.ext (Ext.trans HWS.out he)) ha (HPA.out.ext (Ext.trans HWS.out he)) hsn HCKL.out hrn5)
      have HPLL : Hid (pli.length ≤ 5000) := hide (by have h9 : pli.length = rn := HPA.out.len; omega)
      have HSML : Hid (sm.length ≤ 5000) := hide (by rw [HSL.out]; exact hsn)
      have HTBE : Hid (TB = .mk kTrck 0 [] [leafB kName xn, leafB kRate (beN 4 (u64N xs)), leafB kEdit (edB xe), leafB kTabl (tabBy (cmpT sm (ckL sn ch) pli))]) := hide (by rw [HTB.out, HSL.out])
      have S1 : Hid (hk.length + 1 ≤ maxLen ∧ (hk.length + 1) * 72 ≤ 140737488355328) := hide (by have h1 := HFH.out.1.len; have h2 := HKL.out; unfold maxLen; omega)
      clear hck HTB HF hwh
      go_cut [12] (fun s12 wx => ∃ tq : Nat, s12 = .pointer (some ⟨tq, 0, none⟩) ∧ Hid (TbM w6 wx tq (cmpT sm (ckL sn ch) pli)))
      case first =>
        refine region_z (S := S6 tb gp i (.slice sA sn scc) (.slice rA rn rc)) 13 (by kernel_rfl) ?_
        refine AnyZ.takeE (i := 0) (d := 30) (oi := _) (v := ?_) rfl rfl rfl (by kernel_rfl) (by kernel_rfl) (by kernel_rfl) (by kernel_rfl) (by kernel_rfl) (by kernel_rfl) (fun _ _ _ h => h) (Or.inl ⟨by rfl, ?_⟩) (HSX.out.ext (Ext.drew w6)) ?_
        rotate_left
        · intro W hW; obtain ⟨s0, s1⟩ := hW; first | (go_simp; done) | (go_simp; with_reducible rfl)
        try simp only [Act.put, List.setIfInBounds_toArray, List.set_cons_zero, List.set_cons_succ]
        refine AnyZ.takeE (i := 1) (d := 31) (oi := _) (v := ?_) rfl rfl rfl (by kernel_rfl) (by kernel_rfl) (by kernel_rfl) (by kernel_rfl) (by kernel_rfl) (by kernel_rfl) (fun _ _ _ h => h) (Or.inl ⟨by rfl, ?_⟩) (HSX.out.ext (Ext.drew w6)) ?_
        rotate_left
        · intro W hW; obtain ⟨s0, s1⟩ := hW; first | (go_simp; done) | (go_simp; with_reducible rfl)
        try simp only [Act.put, List.setIfInBounds_toArray, List.set_cons_zero, List.set_cons_succ]
        refine AnyZ.takeE (i := 2) (d := 32) (oi := _) (v := ?_) rfl rfl rfl (by kernel_rfl) (by kernel_rfl) (by kernel_rfl) (by kernel_rfl) (by kernel_rfl) (by kernel_rfl) (fun _ _ _ h => h) (Or.inl ⟨by rfl, ?_⟩) (HSX.out.ext (Ext.drew w6)) ?_
        rotate_left
        · intro W hW; obtain ⟨s0, s1⟩ := hW; first | (go_simp; done) | (go_simp; with_reducible rfl)
        try simp only [Act.put, List.setIfInBounds_toArray, List.set_cons_zero, List.set_cons_succ]
        refine AnyZ.takeE (i := 3) (d := 33) (oi := _) (v := ?_) rfl rfl rfl (by kernel_rfl) (by kernel_rfl) (by kernel_rfl) (by kernel_rfl) (by kernel_rfl) (by kernel_rfl) (fun _ _ _ h => h) (Or.inl ⟨by rfl, ?_⟩) (HSX.out.ext (Ext.drew w6)) ?_
        rotate_left
        · intro W hW; obtain ⟨s0, s1⟩ := hW; first | (go_simp; done) | (go_simp; with_reducible rfl)
        try simp only [Act.put, List.setIfInBounds_toArray, List.set_cons_zero, List.set_cons_succ]
        refine AnyZ.takeE (i := 4) (d := 34) (oi := _) (v := ?_) rfl rfl rfl (by kernel_rfl) (by kernel_rfl) (by kernel_rfl) (by kernel_rfl) (by kernel_rfl) (by kernel_rfl) (fun _ _ _ h => h) (Or.inl ⟨by rfl, ?_⟩) (HSX.out.ext (Ext.drew w6)) ?_
        rotate_left
        · intro W hW; obtain ⟨s0, s1⟩ := hW; first | (go_simp; done) | (go_simp; with_reducible rfl)
        try simp only [Act.put, List.setIfInBounds_toArray, List.set_cons_zero, List.set_cons_succ]
        refine AnyZ.takeE (i := 5) (d := 35) (oi := _) (v := ?_) rfl rfl rfl (by kernel_rfl) (by kernel_rfl) (by kernel_rfl) (by kernel_rfl) (by kernel_rfl) (by kernel_rfl) (fun _ _ _ h => h) (Or.inl ⟨by rfl, ?_⟩) (HSX.out.ext (Ext.drew w6)) ?_
        rotate_left
        · intro W hW; obtain ⟨s0, s1⟩ := hW; first | (go_simp; done) | (go_simp; with_reducible rfl)
        try simp only [Act.put, List.setIfInBounds_toArray, List.set_cons_zero, List.set_cons_succ]
        refine AnyZ.takeE (i := 7) (d := 37) (oi := _) (v := ?_) rfl rfl rfl (by kernel_rfl) (by kernel_rfl) (by kernel_rfl) (by kernel_rfl) (by kernel_rfl) (by kernel_rfl) (fun _ _ _ h => h) (Or.inl ⟨by rfl, ?_⟩) (HSX.out.ext (Ext.drew w6)) ?_
        rotate_left
        · intro W hW; obtain ⟨s0, s1⟩ := hW; first | (go_simp; done) | (go_simp; with_reducible rfl)
        try simp only [Act.put, List.setIfInBounds_toArray, List.set_cons_zero, List.set_cons_succ]
        refine AnyZ.takeE (i := 8) (d := 38) (oi := _) (v := ?_) rfl rfl rfl (by kernel_rfl) (by kernel_rfl) (by kernel_rfl) (by kernel_rfl) (by kernel_rfl) (by kernel_rfl) (fun _ _ _ h => h) (Or.inl ⟨by rfl, ?_⟩) (HSX.out.ext (Ext.drew w6)) ?_
        rotate_left
        · intro W hW; obtain ⟨s0, s1⟩ := hW; first | (go_simp; done) | (go_simp; with_reducible rfl)
        try simp only [Act.put, List.setIfInBounds_toArray, List.set_cons_zero, List.set_cons_succ]
        refine AnyZ.takeE (i := 9) (d := 39) (oi := _) (v := ?_) rfl rfl rfl (by kernel_rfl) (by kernel_rfl) (by kernel_rfl) (by kernel_rfl) (by kernel_rfl) (by kernel_rfl) (fun _ _ _ h => h) (Or.inl ⟨by rfl, ?_⟩) (HSX.out.ext (Ext.drew w6)) ?_
        rotate_left
        · intro W hW; obtain ⟨s0, s1⟩ := hW; first | (go_simp; done) | (go_simp; with_reducible rfl)
        try simp only [Act.put, List.setIfInBounds_toArray, List.set_cons_zero, List.set_cons_succ]
        refine AnyZ.takeE (i := 10) (d := 40) (oi := _) (v := ?_) rfl rfl rfl (by kernel_rfl) (by kernel_rfl) (by kernel_rfl) (by kernel_rfl) (by kernel_rfl) (by kernel_rfl) (fun _ _ _ h => h) (Or.inl ⟨by rfl, ?_⟩) (HSX.out.ext (Ext.drew w6)) ?_
        rotate_left
        · intro W hW; obtain ⟨s0, s1⟩ := hW; first | (go_simp; done) | (go_simp; with_reducible rfl)
        try simp only [Act.put, List.setIfInBounds_toArray, List.set_cons_zero, List.set_cons_succ]
        refine AnyZ.many (i := 6) (r := [12]) (by kernel_rfl) (AllZ.cons rfl (fun K hK => ?_) (AllZ.cons rfl (fun K hK => ?_) trivial))
        · go_simp
          go_at_call 48
          with_reducible refine (HA6.out _).mono ?_
          rintro e wn1 ⟨v1, rfl, o1, e1⟩
          have EX1 := hide e1
          obtain ⟨cA, cc, rfl, a1⟩ := o1.at_ len_e64
          have CB1 := hide a1
          clear o1 e1 a1
          refine hK.out _ _ (fun h => HSX.out.ext (Ext.trans (Ext.drew w6) EX1.out)) ?_
          clear hK K
          try simp only [Act.put, List.setIfInBounds_toArray, List.set_cons_zero, List.set_cons_succ]
          refine AnyZ.many (i := 11) (r := [12]) (by kernel_rfl) (AllZ.cons rfl (fun K hK => ?_) (AllZ.cons rfl (fun K hK => ?_) trivial))
          · go_simp
            go_at_call 50
            with_reducible refine (HA11.out _ _ _ (Ext.trans (Ext.drew w6) EX1.out) CB1.out).mono ?_
            rintro e wn2 ⟨v2, rfl, t2, e2⟩
            have EX2 := hide e2
            obtain ⟨tsA, tsn, tsc, thA, thn, thc, tzA, tzn, tzc, tkA, tkn, tkc, tcA, tcn, tcc, tpA, tpn, tpc, rfl, ta2, tb2⟩ := t2
            have TB2 := hide ta2
            have TN2 := hide tb2
            clear ta2 e2 tb2
            refine hK.out _ _ (fun h => HSX.out.ext (Ext.trans (Ext.drew w6) (Ext.trans EX1.out EX2.out))) ?_
            clear hK K
            try simp only [Act.put, List.setIfInBounds_toArray, List.set_cons_zero, List.set_cons_succ]
            refine AnyZ.step (i := 12) rfl (by kernel_rfl) (fun K hK => ?_)
            go_simp
            refine gen_hk hK fun wn3 hwn3 => ?_
            obtain ⟨tq, htq⟩ : ∃ tq, tq = wn2.heap.size := ⟨_, rfl⟩
            have EX3 : Hid (Ext wn2 wn3) := hide (by rw [hwn3]; exact Ext.alloc _ _)
            have QB3 : Hid (Blk wn3 tq 73 #[.int .i64 0, .slice none 0 0, .slice none 0 0, .slice none 0 0, .slice none 0 0, .slice none 0 0, .slice none 0 0]) := hide (by rw [hwn3, htq]; exact Blk.new _ _ _)
            have QL : Hid (w6.heap.size ≤ tq) := hide (by rw [htq]; exact (Ext.trans (Ext.drew w6) (Ext.trans EX1.out EX2.out)).size)
            have QE := hide htq
            first | rw [← htq] | (rw [show w6.heap.size = tq from htq.symm])
            refine ⟨fun h => HSX.out.ext (Ext.trans (Ext.drew w6) (Ext.trans EX1.out (Ext.trans EX2.out EX3.out))), ?_⟩
            clear hK K hwn3 htq
            try simp only [Act.put, List.setIfInBounds_toArray, List.set_cons_zero, List.set_cons_succ]
            have BQ := hide QB3.out
            have q0 : wn3.cell? ⟨tq, 0, none⟩ = some (.int .i64 0) := BQ.out.cell 0
            have r0 : wn3.frozen? ⟨tq, 0, none⟩ = false := BQ.out.frozen 0
            have q1 : wn3.cell? ⟨tq, 1, none⟩ = some (.slice none 0 0) := BQ.out.cell 1
            have r1 : wn3.frozen? ⟨tq, 1, none⟩ = false := BQ.out.frozen 1
            have q2 : wn3.cell? ⟨tq, 2, none⟩ = some (.slice none 0 0) := BQ.out.cell 2
            have r2 : wn3.frozen? ⟨tq, 2, none⟩ = false := BQ.out.frozen 2
            have q3 : wn3.cell? ⟨tq, 3, none⟩ = some (.slice none 0 0) := BQ.out.cell 3
            have r3 : wn3.frozen? ⟨tq, 3, none⟩ = false := BQ.out.frozen 3
            have q4 : wn3.cell? ⟨tq, 4, none⟩ = some (.slice none 0 0) := BQ.out.cell 4
            have r4 : wn3.frozen? ⟨tq, 4, none⟩ = false := BQ.out.frozen 4
            have q5 : wn3.cell? ⟨tq, 5, none⟩ = some (.slice none 0 0) := BQ.out.cell 5
            have r5 : wn3.frozen? ⟨tq, 5, none⟩ = false := BQ.out.frozen 5
            have q6 : wn3.cell? ⟨tq, 6, none⟩ = some (.slice none 0 0) := BQ.out.cell 6
            have r6 : wn3.frozen? ⟨tq, 6, none⟩ = false := BQ.out.frozen 6
            refine AnyZ.step (i := 13) rfl (by kernel_rfl) (fun K hK => ?_)
            go_simp
            refine gen_hk hK fun V hV => ⟨fun h => absurd (h.symm.trans (show _ = true by kernel_rfl)) (by simp), ?_⟩
            have TV : Hid (Tw wn3 V tq none) := hide (by rw [hV]; exact ((((((Tw.set_ _ _ _ _ _).trans (Tw.set_ _ _ _ _ _)).trans (Tw.set_ _ _ _ _ _)).trans (Tw.set_ _ _ _ _ _)).trans (Tw.set_ _ _ _ _ _)).trans (Tw.set_ _ _ _ _ _)).trans (Tw.set_ _ _ _ _ _))
            have BV : Hid (Blk V tq 73 #[.int .i64 (cmpT sm (ckL sn ch) pli).start, .slice tsA tsn tsc, .slice thA thn thc, .slice tzA tzn tzc, .slice tkA tkn tkc, .slice tcA tcn tcc, .slice tpA tpn tpc]) := hide (by rw [hV]; exact ((((((BQ.out.set_ 0 _).set_ 1 _).set_ 2 _).set_ 3 _).set_ 4 _).set_ 5 _).set_ 6 _)
            clear hK K hV q0 r0 q1 r1 q2 r2 q3 r3 q4 r4 q5 r5 q6 r6
            refine AnyZ.done (by kernel_rfl) ?_ _
            have AV := hide (tab_old TB2.out EX3.out TV.out (Nat.le_of_eq QE.out.symm))
            have FIN : Hid (TbM w6 V tq (cmpT sm (ckL sn ch) pli)) := hide ⟨_, _, _, _, _, _, _, _, _, _, _, _, _, _, _, _, _, _, BV.out, AV.out, QL.out, tw_ext' (Ext.trans (Ext.drew w6) (Ext.trans EX1.out (Ext.trans EX2.out EX3.out))) TV.out QL.out⟩
            go_wp2_with fail
            go_meet
            exact ⟨_, rfl, FIN⟩
          · go_simp
            refine gen_hk hK fun wn2 hwn2 => ?_
            obtain ⟨tq, htq⟩ : ∃ tq, tq = wn1.heap.size := ⟨_, rfl⟩
            have EX2 : Hid (Ext wn1 wn2) := hide (by rw [hwn2]; exact Ext.alloc _ _)
            have QB2 : Hid (Blk wn2 tq 73 #[.int .i64 0, .slice none 0 0, .slice none 0 0, .slice none 0 0, .slice none 0 0, .slice none 0 0, .slice none 0 0]) := hide (by rw [hwn2, htq]; exact Blk.new _ _ _)
            have QL : Hid (w6.heap.size ≤ tq) := hide (by rw [htq]; exact (Ext.trans (Ext.drew w6) EX1.out).size)
            have QE := hide htq
            first | rw [← htq] | (rw [show w6.heap.size = tq from htq.symm])
            refine ⟨fun h => HSX.out.ext (Ext.trans (Ext.drew w6) (Ext.trans EX1.out EX2.out)), ?_⟩
            clear hK K hwn2 htq
            try simp only [Act.put, List.setIfInBounds_toArray, List.set_cons_zero, List.set_cons_succ]
            refine AnyZ.step (i := 11) rfl (by kernel_rfl) (fun K hK => ?_)
            go_simp
            go_at_call 50
            with_reducible refine (HA11.out _ _ _ (Ext.trans (Ext.drew w6) (Ext.trans EX1.out EX2.out)) (CB1.out.ext EX2.out)).mono ?_
            rintro e wn3 ⟨v3, rfl, t3, e3⟩
            have EX3 := hide e3
            obtain ⟨tsA, tsn, tsc, thA, thn, thc, tzA, tzn, tzc, tkA, tkn, tkc, tcA, tcn, tcc, tpA, tpn, tpc, rfl, ta3, tb3⟩ := t3
            have TB3 := hide ta3
            have TN3 := hide tb3
            clear ta3 e3 tb3
            refine hK.out _ _ (fun h => HSX.out.ext (Ext.trans (Ext.drew w6) (Ext.trans EX1.out (Ext.trans EX2.out EX3.out)))) ?_
            clear hK K
            try simp only [Act.put, List.setIfInBounds_toArray, List.set_cons_zero, List.set_cons_succ]
            have BQ := hide (QB2.out.ext EX3.out)
            have q0 : wn3.cell? ⟨tq, 0, none⟩ = some (.int .i64 0) := BQ.out.cell 0
            have r0 : wn3.frozen? ⟨tq, 0, none⟩ = false := BQ.out.frozen 0
            have q1 : wn3.cell? ⟨tq, 1, none⟩ = some (.slice none 0 0) := BQ.out.cell 1
            have r1 : wn3.frozen? ⟨tq, 1, none⟩ = false := BQ.out.frozen 1
            have q2 : wn3.cell? ⟨tq, 2, none⟩ = some (.slice none 0 0) := BQ.out.cell 2
            have r2 : wn3.frozen? ⟨tq, 2, none⟩ = false := BQ.out.frozen 2
            have q3 : wn3.cell? ⟨tq, 3, none⟩ = some (.slice none 0 0) := BQ.out.cell 3
            have r3 : wn3.frozen? ⟨tq, 3, none⟩ = false := BQ.out.frozen 3
            have q4 : wn3.cell? ⟨tq, 4, none⟩ = some (.slice none 0 0) := BQ.out.cell 4
            have r4 : wn3.frozen? ⟨tq, 4, none⟩ = false := BQ.out.frozen 4
            have q5 : wn3.cell? ⟨tq, 5, none⟩ = some (.slice none 0 0) := BQ.out.cell 5
            have r5 : wn3.frozen? ⟨tq, 5, none⟩ = false := BQ.out.frozen 5
            have q6 : wn3.cell? ⟨tq, 6, none⟩ = some (.slice none 0 0) := BQ.out.cell 6
            have r6 : wn3.frozen? ⟨tq, 6, none⟩ = false := BQ.out.frozen 6
            refine AnyZ.step (i := 13) rfl (by kernel_rfl) (fun K hK => ?_)
            go_simp
            refine gen_hk hK fun V hV => ⟨fun h => absurd (h.symm.trans (show _ = true by kernel_rfl)) (by simp), ?_⟩
            have TV : Hid (Tw wn3 V tq none) := hide (by rw [hV]; exact ((((((Tw.set_ _ _ _ _ _).trans (Tw.set_ _ _ _ _ _)).trans (Tw.set_ _ _ _ _ _)).trans (Tw.set_ _ _ _ _ _)).trans (Tw.set_ _ _ _ _ _)).trans (Tw.set_ _ _ _ _ _)).trans (Tw.set_ _ _ _ _ _))
            have BV : Hid (Blk V tq 73 #[.int .i64 (cmpT sm (ckL sn ch) pli).start, .slice tsA tsn tsc, .slice thA thn thc, .slice tzA tzn tzc, .slice tkA tkn tkc, .slice tcA tcn tcc, .slice tpA tpn tpc]) := hide (by rw [hV]; exact ((((((BQ.out.set_ 0 _).set_ 1 _).set_ 2 _).set_ 3 _).set_ 4 _).set_ 5 _).set_ 6 _)
            clear hK K hV q0 r0 q1 r1 q2 r2 q3 r3 q4 r4 q5 r5 q6 r6
            refine AnyZ.done (by kernel_rfl) ?_ _
            have AV := hide (tab_new TB3.out TN3.out TV.out (Nat.lt_of_lt_of_le QB2.out.lt (Ext.refl _).size))
            have FIN : Hid (TbM w6 V tq (cmpT sm (ckL sn ch) pli)) := hide ⟨_, _, _, _, _, _, _, _, _, _, _, _, _, _, _, _, _, _, BV.out, AV.out, QL.out, tw_ext' (Ext.trans (Ext.drew w6) (Ext.trans EX1.out (Ext.trans EX2.out EX3.out))) TV.out QL.out⟩
            go_wp2_with fail
            go_meet
            exact ⟨_, rfl, FIN⟩
        · go_simp
          refine gen_hk hK fun wn1 hwn1 => ?_
          obtain ⟨tq, htq⟩ : ∃ tq, tq = w6.drew.heap.size := ⟨_, rfl⟩
          have EX1 : Hid (Ext w6.drew wn1) := hide (by rw [hwn1]; exact Ext.alloc _ _)
          have QB1 : Hid (Blk wn1 tq 73 #[.int .i64 0, .slice none 0 0, .slice none 0 0, .slice none 0 0, .slice none 0 0, .slice none 0 0, .slice none 0 0]) := hide (by rw [hwn1, htq]; exact Blk.new _ _ _)
          have QL : Hid (w6.heap.size ≤ tq) := hide (by rw [htq]; exact (Ext.drew w6).size)
          have QE := hide htq
          first | rw [← htq] | (rw [show w6.heap.size = tq from htq.symm])
          refine ⟨fun h => HSX.out.ext (Ext.trans (Ext.drew w6) EX1.out), ?_⟩
          clear hK K hwn1 htq
          try simp only [Act.put, List.setIfInBounds_toArray, List.set_cons_zero, List.set_cons_succ]
          refine AnyZ.step (i := 6) rfl (by kernel_rfl) (fun K hK => ?_)
          go_simp
          go_at_call 48
          with_reducible refine (HA6.out _).mono ?_
          rintro e wn2 ⟨v2, rfl, o2, e2⟩
          have EX2 := hide e2
          obtain ⟨cA, cc, rfl, a2⟩ := o2.at_ len_e64
          have CB2 := hide a2
          clear o2 e2 a2
          refine hK.out _ _ (fun h => HSX.out.ext (Ext.trans (Ext.drew w6) (Ext.trans EX1.out EX2.out))) ?_
          clear hK K
          try simp only [Act.put, List.setIfInBounds_toArray, List.set_cons_zero, List.set_cons_succ]
          refine AnyZ.step (i := 11) rfl (by kernel_rfl) (fun K hK => ?_)
          go_simp
          go_at_call 50
          with_reducible refine (HA11.out _ _ _ (Ext.trans (Ext.drew w6) (Ext.trans EX1.out EX2.out)) CB2.out).mono ?_
          rintro e wn3 ⟨v3, rfl, t3, e3⟩
          have EX3 := hide e3
          obtain ⟨tsA, tsn, tsc, thA, thn, thc, tzA, tzn, tzc, tkA, tkn, tkc, tcA, tcn, tcc, tpA, tpn, tpc, rfl, ta3, tb3⟩ := t3
          have TB3 := hide ta3
          have TN3 := hide tb3
          clear ta3 e3 tb3
          refine hK.out _ _ (fun h => HSX.out.ext (Ext.trans (Ext.drew w6) (Ext.trans EX1.out (Ext.trans EX2.out EX3.out)))) ?_
          clear hK K
          try simp only [Act.put, List.setIfInBounds_toArray, List.set_cons_zero, List.set_cons_succ]
          have BQ := hide (QB1.out.ext (Ext.trans EX2.out EX3.out))
          have q0 : wn3.cell? ⟨tq, 0, none⟩ = some (.int .i64 0) := BQ.out.cell 0
          have r0 : wn3.frozen? ⟨tq, 0, none⟩ = false := BQ.out.frozen 0
          have q1 : wn3.cell? ⟨tq, 1, none⟩ = some (.slice none 0 0) := BQ.out.cell 1
          have r1 : wn3.frozen? ⟨tq, 1, none⟩ = false := BQ.out.frozen 1
          have q2 : wn3.cell? ⟨tq, 2, none⟩ = some (.slice none 0 0) := BQ.out.cell 2
          have r2 : wn3.frozen? ⟨tq, 2, none⟩ = false := BQ.out.frozen 2
          have q3 : wn3.cell? ⟨tq, 3, none⟩ = some (.slice none 0 0) := BQ.out.cell 3
          have r3 : wn3.frozen? ⟨tq, 3, none⟩ = false := BQ.out.frozen 3
          have q4 : wn3.cell? ⟨tq, 4, none⟩ = some (.slice none 0 0) := BQ.out.cell 4
          have r4 : wn3.frozen? ⟨tq, 4, none⟩ = false := BQ.out.frozen 4
          have q5 : wn3.cell? ⟨tq, 5, none⟩ = some (.slice none 0 0) := BQ.out.cell 5
          have r5 : wn3.frozen? ⟨tq, 5, none⟩ = false := BQ.out.frozen 5
          have q6 : wn3.cell? ⟨tq, 6, none⟩ = some (.slice none 0 0) := BQ.out.cell 6
          have r6 : wn3.frozen? ⟨tq, 6, none⟩ = false := BQ.out.frozen 6
          refine AnyZ.step (i := 13) rfl (by kernel_rfl) (fun K hK => ?_)
          go_simp
          refine gen_hk hK fun V hV => ⟨fun h => absurd (h.symm.trans (show _ = true by kernel_rfl)) (by simp), ?_⟩
          have TV : Hid (Tw wn3 V tq none) := hide (by rw [hV]; exact ((((((Tw.set_ _ _ _ _ _).trans (Tw.set_ _ _ _ _ _)).trans (Tw.set_ _ _ _ _ _)).trans (Tw.set_ _ _ _ _ _)).trans (Tw.set_ _ _ _ _ _)).trans (Tw.set_ _ _ _ _ _)).trans (Tw.set_ _ _ _ _ _))
          have BV : Hid (Blk V tq 73 #[.int .i64 (cmpT sm (ckL sn ch) pli).start, .slice tsA tsn tsc, .slice thA thn thc, .slice tzA tzn tzc, .slice tkA tkn tkc, .slice tcA tcn tcc, .slice tpA tpn tpc]) := hide (by rw [hV]; exact ((((((BQ.out.set_ 0 _).set_ 1 _).set_ 2 _).set_ 3 _).set_ 4 _).set_ 5 _).set_ 6 _)
          clear hK K hV q0 r0 q1 r1 q2 r2 q3 r3 q4 r4 q5 r5 q6 r6
          refine AnyZ.done (by kernel_rfl) ?_ _
          have AV := hide (tab_new TB3.out TN3.out TV.out (Nat.lt_of_lt_of_le QB1.out.lt EX2.out.size))
          have FIN : Hid (TbM w6 V tq (cmpT sm (ckL sn ch) pli)) := hide ⟨_, _, _, _, _, _, _, _, _, _, _, _, _, _, _, _, _, _, BV.out, AV.out, QL.out, tw_ext' (Ext.trans (Ext.drew w6) (Ext.trans EX1.out (Ext.trans EX2.out EX3.out))) TV.out QL.out⟩
          go_wp2_with fail
          go_meet
          exact ⟨_, rfl, FIN⟩
      case rest =>
        obtain ⟨tq, rfl, HQ⟩ := hcut
        obtain ⟨w7, hw7⟩ : ∃ w7, w7 = wc := ⟨_, rfl⟩
        subst hw7
        obtain ⟨tsA, tsn, tsc, thA, thn, thc, tzA, tzn, tzc, tkA, tkn, tkc, tcA, tcn, tcc, tpA, tpn, tpc, tbk, tat, ttq, te⟩ := HQ.out
        have HTA := hide tat
        have HFW := hide (cmp_fw tat HSML.out HCKL.out HPLL.out)
        have E67 := hide te
        have HEW : Hid (Ext wh w7) := hide (Ext.trans ER.out te)
        have HSY : Hid (S7 tb tq (.string ⟨xn.toArray⟩) (.int .i64 xs) (.slice eA en ec) (.int .i64 (cmpT sm (ckL sn ch) pli).start) (.slice tsA tsn tsc) (.slice thA thn thc) (.slice tzA tzn tzc) (.slice tkA tkn tkc) (.slice tcA tcn tcc) (.slice tpA tpn tpc) w7) := hide (by
          have hX := X5.out.ext te
          exact ⟨hX.cell 0, hX.cell 1, hX.cell 3, tbk.cell 0, tbk.cell 1, tbk.cell 2, tbk.cell 3, tbk.cell 4, tbk.cell 5, tbk.cell 6⟩)
        have HLT := HFH.out.1.own.lt
        have HNB := hide (And.intro (fun e => (by have := (HLT tb e).2; have := HTBW.out; omega : False)) (fun e => (by have := (HLT tq e).2; have := ER.out.size; omega : False)))
        have HA7 := hide (fun (W : World) => wrtO (w := W) (x := xs) 4 4 rfl (by omega))
        have HA8 := hide (fun (W : World) (he : Ext w7 W) => refEdits_any (HE.out.ext (Ext.trans HWH.out (Ext.trans HEW.out he))) (by omega))
        have HA9 := hide (fun (W : World) (he : Ext w7 W) => refTableBytes_in (HTA.out.ext he) HFW.out)
        clear HQ tbk tat ttq te HLT
        go_upto_region 7 with (fail)
        refine region_z (S := S7 tb tq (.string ⟨xn.toArray⟩) (.int .i64 xs) (.slice eA en ec) (.int .i64 (cmpT sm (ckL sn ch) pli).start) (.slice tsA tsn tsc) (.slice thA thn thc) (.slice tzA tzn tzc) (.slice tkA tkn tkc) (.slice tcA tcn tcc) (.slice tpA tpn tpc)) 20 (by kernel_rfl) ?_
        refine AnyZ.takeE (i := 0) (d := 42) (oi := _) (v := ?_) rfl rfl rfl (by kernel_rfl) (by kernel_rfl) (by kernel_rfl) (by kernel_rfl) (by kernel_rfl) (by kernel_rfl) (fun _ _ _ h => h) (Or.inl ⟨by rfl, ?_⟩) (HSY.out.ext (Ext.drew w7)) ?_
        rotate_left
        · intro W hW; obtain ⟨s0, s1, s2, s3, s4, s5, s6, s7, s8, s9⟩ := hW; first | (go_simp; done) | (go_simp; with_reducible rfl)
        try simp only [Act.put, List.setIfInBounds_toArray, List.set_cons_zero, List.set_cons_succ]
        refine AnyZ.takeE (i := 1) (d := 43) (oi := _) (v := ?_) rfl rfl rfl (by kernel_rfl) (by kernel_rfl) (by kernel_rfl) (by kernel_rfl) (by kernel_rfl) (by kernel_rfl) (fun _ _ _ h => h) (Or.inl ⟨by rfl, ?_⟩) (HSY.out.ext (Ext.drew w7)) ?_
        rotate_left
        · intro W hW; obtain ⟨s0, s1, s2, s3, s4, s5, s6, s7, s8, s9⟩ := hW; first | (go_simp; done) | (go_simp; with_reducible rfl)
        try simp only [Act.put, List.setIfInBounds_toArray, List.set_cons_zero, List.set_cons_succ]
        refine AnyZ.takeE (i := 2) (d := 44) (oi := _) (v := ?_) rfl rfl rfl (by kernel_rfl) (by kernel_rfl) (by kernel_rfl) (by kernel_rfl) (by kernel_rfl) (by kernel_rfl) (fun _ _ _ h => h) (Or.inl ⟨by rfl, ?_⟩) (HSY.out.ext (Ext.drew w7)) ?_
        rotate_left
        · intro W hW; obtain ⟨s0, s1, s2, s3, s4, s5, s6, s7, s8, s9⟩ := hW; first | (go_simp; done) | (go_simp; with_reducible rfl)
        try simp only [Act.put, List.setIfInBounds_toArray, List.set_cons_zero, List.set_cons_succ]
        refine AnyZ.takeE (i := 5) (d := 47) (oi := _) (v := ?_) rfl rfl rfl (by kernel_rfl) (by kernel_rfl) (by kernel_rfl) (by kernel_rfl) (by kernel_rfl) (by kernel_rfl) (fun _ _ _ h => h) (Or.inl ⟨by rfl, ?_⟩) (HSY.out.ext (Ext.drew w7)) ?_
        rotate_left
        · intro W hW; obtain ⟨s0, s1, s2, s3, s4, s5, s6, s7, s8, s9⟩ := hW; first | (go_simp; done) | (go_simp; with_reducible rfl)
        try simp only [Act.put, List.setIfInBounds_toArray, List.set_cons_zero, List.set_cons_succ]
        refine AnyZ.takeE (i := 6) (d := 48) (oi := _) (v := ?_) rfl rfl rfl (by kernel_rfl) (by kernel_rfl) (by kernel_rfl) (by kernel_rfl) (by kernel_rfl) (by kernel_rfl) (fun _ _ _ h => h) (Or.inl ⟨by rfl, ?_⟩) (HSY.out.ext (Ext.drew w7)) ?_
        rotate_left
        · intro W hW; obtain ⟨s0, s1, s2, s3, s4, s5, s6, s7, s8, s9⟩ := hW; first | (go_simp; done) | (go_simp; with_reducible rfl)
        try simp only [Act.put, List.setIfInBounds_toArray, List.set_cons_zero, List.set_cons_succ]
        refine AnyZ.takeE (i := 9) (d := 51) (oi := _) (v := ?_) rfl rfl rfl (by kernel_rfl) (by kernel_rfl) (by kernel_rfl) (by kernel_rfl) (by kernel_rfl) (by kernel_rfl) (fun _ _ _ h => h) (Or.inl ⟨by rfl, ?_⟩) (HSY.out.ext (Ext.drew w7)) ?_
        rotate_left
        · intro W hW; obtain ⟨s0, s1, s2, s3, s4, s5, s6, s7, s8, s9⟩ := hW; first | (go_simp; done) | (go_simp; with_reducible rfl)
        try simp only [Act.put, List.setIfInBounds_toArray, List.set_cons_zero, List.set_cons_succ]
        refine AnyZ.takeE (i := 10) (d := 52) (oi := _) (v := ?_) rfl rfl rfl (by kernel_rfl) (by kernel_rfl) (by kernel_rfl) (by kernel_rfl) (by kernel_rfl) (by kernel_rfl) (fun _ _ _ h => h) (Or.inl ⟨by rfl, ?_⟩) (HSY.out.ext (Ext.drew w7)) ?_
        rotate_left
        · intro W hW; obtain ⟨s0, s1, s2, s3, s4, s5, s6, s7, s8, s9⟩ := hW; first | (go_simp; done) | (go_simp; with_reducible rfl)
        try simp only [Act.put, List.setIfInBounds_toArray, List.set_cons_zero, List.set_cons_succ]
        refine AnyZ.takeE (i := 13) (d := 55) (oi := _) (v := ?_) rfl rfl rfl (by kernel_rfl) (by kernel_rfl) (by kernel_rfl) (by kernel_rfl) (by kernel_rfl) (by kernel_rfl) (fun _ _ _ h => h) (Or.inl ⟨by rfl, ?_⟩) (HSY.out.ext (Ext.drew w7)) ?_
        rotate_left
        · intro W hW; obtain ⟨s0, s1, s2, s3, s4, s5, s6, s7, s8, s9⟩ := hW; first | (go_simp; done) | (go_simp; with_reducible rfl)
        try simp only [Act.put, List.setIfInBounds_toArray, List.set_cons_zero, List.set_cons_succ]
        refine AnyZ.many (i := 3) (r := [7]) (by kernel_rfl) (AllZ.cons rfl (fun K hK => ?_) (AllZ.cons rfl (fun K hK => ?_) trivial))
        · have hcv := conv_str w7.drew xn
          go_simp
          obtain ⟨wn1, hwn1⟩ : ∃ w, w = Go.Lib.bytesWorld w7.drew 5 ⟨xn.toArray⟩ := ⟨_, rfl⟩
          have EX1 : Hid (Ext w7.drew wn1) := hide (by rw [hwn1]; exact bytesW_ext _ _ _)
          have NB1 := hide (show BtP wn1 wh.heap.size _ _ _ xn by rw [hwn1]; exact (bytesW_at w7.drew xn (by have := HNL.out; omega)).low (Ext.trans HEW.out (Ext.drew w7)).size)
          rw [← hwn1]
          clear hwn1 hcv
          refine hK.out _ _ (fun h => HSY.out.ext (Ext.trans (Ext.drew w7) EX1.out)) ?_
          clear hK K
          try simp only [Act.put, List.setIfInBounds_toArray, List.set_cons_zero, List.set_cons_succ]
          refine AnyZ.takeE (i := 4) (d := 46) (oi := _) (v := ?_) rfl rfl rfl (by kernel_rfl) (by kernel_rfl) (by kernel_rfl) (by kernel_rfl) (by kernel_rfl) (by kernel_rfl) (fun _ _ _ h => h) (Or.inl ⟨by rfl, ?_⟩) (HSY.out.ext (Ext.trans (Ext.drew w7) EX1.out)) ?_
          rotate_left
          · intro W hW; obtain ⟨s0, s1, s2, s3, s4, s5, s6, s7, s8, s9⟩ := hW; first | (go_simp; done) | (go_simp; with_reducible rfl)
          try simp only [Act.put, List.setIfInBounds_toArray, List.set_cons_zero, List.set_cons_succ]
          refine AnyZ.step (i := 7) rfl (by kernel_rfl) (fun K hK => ?_)
          go_simp
          go_at_call 49
          with_reducible refine (HA7.out _).mono ?_
          rintro e wn2 ⟨gw, rfl, o2, e2⟩
          have EX2 := hide e2
          have RB2 : Hid (BtP wn2 wh.heap.size (some ⟨gw, 0, none⟩) 4 4 (beN 4 (u64N xs))) := hide ⟨o2.atS len_e8, fun a ha => by injection ha with ha; subst ha; have h1 := o2.lt gw rfl; exact ⟨Nat.le_trans (Ext.trans HEW.out (Ext.trans (Ext.drew w7) EX1.out)).size h1.1, h1.2⟩⟩
          clear o2 e2
          refine hK.out _ _ (fun h => HSY.out.ext (Ext.trans (Ext.drew w7) (Ext.trans EX1.out EX2.out))) ?_
          clear hK K
          try simp only [Act.put, List.setIfInBounds_toArray, List.set_cons_zero, List.set_cons_succ]
          refine AnyZ.takeE (i := 8) (d := 50) (oi := _) (v := ?_) rfl rfl rfl (by kernel_rfl) (by kernel_rfl) (by kernel_rfl) (by kernel_rfl) (by kernel_rfl) (by kernel_rfl) (fun _ _ _ h => h) (Or.inl ⟨by rfl, ?_⟩) (HSY.out.ext (Ext.trans (Ext.drew w7) (Ext.trans EX1.out EX2.out))) ?_
          rotate_left
          · intro W hW; obtain ⟨s0, s1, s2, s3, s4, s5, s6, s7, s8, s9⟩ := hW; first | (go_simp; done) | (go_simp; with_reducible rfl)
          try simp only [Act.put, List.setIfInBounds_toArray, List.set_cons_zero, List.set_cons_succ]
          refine AnyZ.step (i := 11) rfl (by kernel_rfl) (fun K hK => ?_)
          go_simp
          go_at_call 51
          with_reducible refine (HA8.out _ (Ext.trans (Ext.drew w7) (Ext.trans EX1.out EX2.out))).mono ?_
          rintro e wn3 ⟨v3, rfl, o3, e3⟩
          have EX3 := hide e3
          obtain ⟨edA, edc, rfl, B3⟩ := BtP.own (B' := wh.heap.size) o3 (Ext.trans HEW.out (Ext.trans (Ext.drew w7) (Ext.trans EX1.out EX2.out))).size
          have EB3 := hide B3
          clear o3 e3 B3
          refine hK.out _ _ (fun h => HSY.out.ext (Ext.trans (Ext.drew w7) (Ext.trans EX1.out (Ext.trans EX2.out EX3.out)))) ?_
          clear hK K
          try simp only [Act.put, List.setIfInBounds_toArray, List.set_cons_zero, List.set_cons_succ]
          refine AnyZ.takeE (i := 12) (d := 54) (oi := _) (v := ?_) rfl rfl rfl (by kernel_rfl) (by kernel_rfl) (by kernel_rfl) (by kernel_rfl) (by kernel_rfl) (by kernel_rfl) (fun _ _ _ h => h) (Or.inl ⟨by rfl, ?_⟩) (HSY.out.ext (Ext.trans (Ext.drew w7) (Ext.trans EX1.out (Ext.trans EX2.out EX3.out)))) ?_
          rotate_left
          · intro W hW; obtain ⟨s0, s1, s2, s3, s4, s5, s6, s7, s8, s9⟩ := hW; first | (go_simp; done) | (go_simp; with_reducible rfl)
          try simp only [Act.put, List.setIfInBounds_toArray, List.set_cons_zero, List.set_cons_succ]
          refine AnyZ.step (i := 14) rfl (by kernel_rfl) (fun K hK => ?_)
          go_simp
          go_at_call 52
          with_reducible refine (HA9.out _ (Ext.trans (Ext.drew w7) (Ext.trans EX1.out (Ext.trans EX2.out EX3.out)))).mono ?_
          rintro e wn4 ⟨v4, rfl, o4, e4⟩
          have EX4 := hide e4
          obtain ⟨btA, btc, rfl, B4⟩ := BtP.own (B' := wh.heap.size) o4 (Ext.trans HEW.out (Ext.trans (Ext.drew w7) (Ext.trans EX1.out (Ext.trans EX2.out EX3.out)))).size
          have BB4 := hide B4
          clear o4 e4 B4
          refine hK.out _ _ (fun h => HSY.out.ext (Ext.trans (Ext.drew w7) (Ext.trans EX1.out (Ext.trans EX2.out (Ext.trans EX3.out EX4.out))))) ?_
          clear hK K
          try simp only [Act.put, List.setIfInBounds_toArray, List.set_cons_zero, List.set_cons_succ]
          refine AnyZ.takeE (i := 15) (d := 57) (oi := _) (v := ?_) rfl rfl rfl (by kernel_rfl) (by kernel_rfl) (by kernel_rfl) (by kernel_rfl) (by kernel_rfl) (by kernel_rfl) (fun _ _ _ h => h) (Or.inl ⟨by rfl, ?_⟩) (HSY.out.ext (Ext.trans (Ext.drew w7) (Ext.trans EX1.out (Ext.trans EX2.out (Ext.trans EX3.out EX4.out))))) ?_
          rotate_left
          · intro W hW; obtain ⟨s0, s1, s2, s3, s4, s5, s6, s7, s8, s9⟩ := hW; first | (go_simp; done) | (go_simp; with_reducible rfl)
          try simp only [Act.put, List.setIfInBounds_toArray, List.set_cons_zero, List.set_cons_succ]
          refine AnyZ.step (i := 16) rfl (by kernel_rfl) (fun K hK => ?_)
          go_simp
          have BX5 := hide (four_bxs (W := wn4) (B := wh.heap.size) (Ext.trans HEW.out (Ext.trans (Ext.drew w7) (Ext.trans EX1.out (Ext.trans EX2.out (Ext.trans EX3.out EX4.out))))).size (NB1.out.ext (Ext.trans EX2.out (Ext.trans EX3.out EX4.out))) (RB2.out.ext (Ext.trans EX3.out EX4.out)) (EB3.out.ext EX4.out) BB4.out)
          refine gen_hk hK fun wn5 hwn5 => ?_
          have EX5 : Hid (Ext wn4 wn5) := hide (by rw [hwn5]; exact Ext.alloc _ _)
          have BY5 : Hid (BxOk wn5 (G1 wh.heap.size wn5) ⟨kTrck, 0, none, 0, 0, some ⟨wn4.heap.size, 0, none⟩, 4, 4⟩ TB) := hide (by rw [hwn5, HTBE.out]; exact BX5.out)
          refine ⟨fun h => HSY.out.ext (Ext.trans (Ext.drew w7) (Ext.trans EX1.out (Ext.trans EX2.out (Ext.trans EX3.out (Ext.trans EX4.out EX5.out))))), ?_⟩
          clear hK K hwn5 BX5
          try simp only [Act.put, List.setIfInBounds_toArray, List.set_cons_zero, List.set_cons_succ]
          refine AnyZ.takeE (i := 17) (d := 59) (oi := _) (v := ?_) rfl rfl rfl (by kernel_rfl) (by kernel_rfl) (by kernel_rfl) (by kernel_rfl) (by kernel_rfl) (by kernel_rfl) (fun _ _ _ h => h) (Or.inl ⟨by rfl, ?_⟩) (HSY.out.ext (Ext.trans (Ext.drew w7) (Ext.trans EX1.out (Ext.trans EX2.out (Ext.trans EX3.out (Ext.trans EX4.out EX5.out)))))) ?_
          rotate_left
          · intro W hW; obtain ⟨s0, s1, s2, s3, s4, s5, s6, s7, s8, s9⟩ := hW; first | (go_simp; done) | (go_simp; with_reducible rfl)
          try simp only [Act.put, List.setIfInBounds_toArray, List.set_cons_zero, List.set_cons_succ]
          refine AnyZ.step (i := 18) rfl (by kernel_rfl) (fun K hK => ?_)
          go_simp
          refine gen_hk hK fun wn6 hwn6 => ?_
          have EX6 : Hid (Ext wn5 wn6) := hide (by rw [hwn6]; exact Ext.alloc _ _)
          have AT6 : Hid (At wn6 4 eBx (some ⟨wn5.heap.size, 0, none⟩) 1 1 [(⟨kTrck, 0, none, 0, 0, some ⟨wn4.heap.size, 0, none⟩, 4, 4⟩ : BoxH)]) := hide (by rw [hwn6]; exact At.newE (enc := eBx) wn5 _ _ _ rfl)
          refine ⟨fun h => HSY.out.ext (Ext.trans (Ext.drew w7) (Ext.trans EX1.out (Ext.trans EX2.out (Ext.trans EX3.out (Ext.trans EX4.out (Ext.trans EX5.out EX6.out)))))), ?_⟩
          clear hK K hwn6
          try simp only [Act.put, List.setIfInBounds_toArray, List.set_cons_zero, List.set_cons_succ]
          refine AnyZ.step (i := 19) rfl (by kernel_rfl) (fun K hK => ?_)
          have EA := hide (Ext.trans HEW.out (Ext.trans (Ext.drew w7) (Ext.trans EX1.out (Ext.trans EX2.out (Ext.trans EX3.out (Ext.trans EX4.out (Ext.trans EX5.out EX6.out)))))))
          have OA := hide (HFH.out.1.own.ext EA.out)
          have SA : Hid (w0.heap.size ≤ wn6.heap.size) := hide (Nat.le_trans HFH.out.2.size EA.out.size)
          refine step_append_at rfl _ _ 45 rfl w0.heap.size 47 i0_ _ 72 Try.underlying45 hi0 hz0 hz1 hz2 rfl (by omega) len_eBx one_eBx _ hk (by rfl) OA.out (some ⟨wn5.heap.size, 0, none⟩) 1 1 _ (by rfl) AT6.out S1.out.1 S1.out.2 SA.out ?_
          intro v9 w9 o9 g9 _ r9
          have F9 : Hid (RwO w9 w0.heap.size fb v9 _ (KS0 ++ [TB]) ∧ Ext w0 w9) := hide ⟨HFH.out.1.snoc HFH.out.2.size (by have := HFH.out.2.size; have := Z0.out; omega) EA.out (okG1 BY5.out EX6.out) o9 g9 r9, OA.out.below (Ext.trans HFH.out.2 EA.out) g9 (Nat.le_refl _)⟩
          have SX9 := hide ((HSY.out.ext (Ext.trans (Ext.drew w7) (Ext.trans EX1.out (Ext.trans EX2.out (Ext.trans EX3.out (Ext.trans EX4.out (Ext.trans EX5.out EX6.out))))))).grow g9 HNB.out.1 HNB.out.2)
          clear o9 g9 r9
          refine hK.out _ _ (fun h => SX9.out) ?_
          clear hK K
          try simp only [Act.put, List.setIfInBounds_toArray, List.set_cons_zero, List.set_cons_succ]
          refine AnyZ.step (i := 20) rfl (by kernel_rfl) (fun K hK => ?_)
          go_simp
          refine hK.out _ _ (fun h => ?_) ?_
          · exact absurd (h.symm.trans (show _ = true by kernel_rfl)) (by simp)
          clear hK K
          try simp only [Act.put, List.setIfInBounds_toArray, List.set_cons_zero, List.set_cons_succ]
          refine AnyZ.done (by kernel_rfl) ?_ _
          clear SX9
          go_wp2_with fail
          exact ⟨⟨i + 1, _, by omega, by go_num, hide (by rw [HKS1.out, HKS.out]; exact F9.out)⟩, by simp [intOf]; omega⟩
        · go_simp
          go_at_call 49
          with_reducible refine (HA7.out _).mono ?_
          rintro e wn1 ⟨gw, rfl, o1, e1⟩
          have EX1 := hide e1
          have RB1 : Hid (BtP wn1 wh.heap.size (some ⟨gw, 0, none⟩) 4 4 (beN 4 (u64N xs))) := hide ⟨o1.atS len_e8, fun a ha => by injection ha with ha; subst ha; have h1 := o1.lt gw rfl; exact ⟨Nat.le_trans (Ext.trans HEW.out (Ext.drew w7)).size h1.1, h1.2⟩⟩
          clear o1 e1
          refine hK.out _ _ (fun h => HSY.out.ext (Ext.trans (Ext.drew w7) EX1.out)) ?_
          clear hK K
          try simp only [Act.put, List.setIfInBounds_toArray, List.set_cons_zero, List.set_cons_succ]
          refine AnyZ.takeE (i := 8) (d := 50) (oi := _) (v := ?_) rfl rfl rfl (by kernel_rfl) (by kernel_rfl) (by kernel_rfl) (by kernel_rfl) (by kernel_rfl) (by kernel_rfl) (fun _ _ _ h => h) (Or.inl ⟨by rfl, ?_⟩) (HSY.out.ext (Ext.trans (Ext.drew w7) EX1.out)) ?_
          rotate_left
          · intro W hW; obtain ⟨s0, s1, s2, s3, s4, s5, s6, s7, s8, s9⟩ := hW; first | (go_simp; done) | (go_simp; with_reducible rfl)
          try simp only [Act.put, List.setIfInBounds_toArray, List.set_cons_zero, List.set_cons_succ]
          refine AnyZ.many (i := 3) (r := [11]) (by kernel_rfl) (AllZ.cons rfl (fun K hK => ?_) (AllZ.cons rfl (fun K hK => ?_) trivial))
          · have hcv := conv_str wn1 xn
            go_simp
            obtain ⟨wn2, hwn2⟩ : ∃ w, w = Go.Lib.bytesWorld wn1 5 ⟨xn.toArray⟩ := ⟨_, rfl⟩
            have EX2 : Hid (Ext wn1 wn2) := hide (by rw [hwn2]; exact bytesW_ext _ _ _)
            have NB2 := hide (show BtP wn2 wh.heap.size _ _ _ xn by rw [hwn2]; exact (bytesW_at wn1 xn (by have := HNL.out; omega)).low (Ext.trans HEW.out (Ext.trans (Ext.drew w7) EX1.out)).size)
            rw [← hwn2]
            clear hwn2 hcv
            refine hK.out _ _ (fun h => HSY.out.ext (Ext.trans (Ext.drew w7) (Ext.trans EX1.out EX2.out))) ?_
            clear hK K
            try simp only [Act.put, List.setIfInBounds_toArray, List.set_cons_zero, List.set_cons_succ]
            refine AnyZ.takeE (i := 4) (d := 46) (oi := _) (v := ?_) rfl rfl rfl (by kernel_rfl) (by kernel_rfl) (by kernel_rfl) (by kernel_rfl) (by kernel_rfl) (by kernel_rfl) (fun _ _ _ h => h) (Or.inl ⟨by rfl, ?_⟩) (HSY.out.ext (Ext.trans (Ext.drew w7) (Ext.trans EX1.out EX2.out))) ?_
            rotate_left
            · intro W hW; obtain ⟨s0, s1, s2, s3, s4, s5, s6, s7, s8, s9⟩ := hW; first | (go_simp; done) | (go_simp; with_reducible rfl)
            try simp only [Act.put, List.setIfInBounds_toArray, List.set_cons_zero, List.set_cons_succ]
            refine AnyZ.step (i := 11) rfl (by kernel_rfl) (fun K hK => ?_)
            go_simp
            go_at_call 51
            with_reducible refine (HA8.out _ (Ext.trans (Ext.drew w7) (Ext.trans EX1.out EX2.out))).mono ?_
            rintro e wn3 ⟨v3, rfl, o3, e3⟩
            have EX3 := hide e3
            obtain ⟨edA, edc, rfl, B3⟩ := BtP.own (B' := wh.heap.size) o3 (Ext.trans HEW.out (Ext.trans (Ext.drew w7) (Ext.trans EX1.out EX2.out))).size
            have EB3 := hide B3
            clear o3 e3 B3
            refine hK.out _ _ (fun h => HSY.out.ext (Ext.trans (Ext.drew w7) (Ext.trans EX1.out (Ext.trans EX2.out EX3.out)))) ?_
            clear hK K
            try simp only [Act.put, List.setIfInBounds_toArray, List.set_cons_zero, List.set_cons_succ]
            refine AnyZ.takeE (i := 12) (d := 54) (oi := _) (v := ?_) rfl rfl rfl (by kernel_rfl) (by kernel_rfl) (by kernel_rfl) (by kernel_rfl) (by kernel_rfl) (by kernel_rfl) (fun _ _ _ h => h) (Or.inl ⟨by rfl, ?_⟩) (HSY.out.ext (Ext.trans (Ext.drew w7) (Ext.trans EX1.out (Ext.trans EX2.out EX3.out)))) ?_
            rotate_left
            · intro W hW; obtain ⟨s0, s1, s2, s3, s4, s5, s6, s7, s8, s9⟩ := hW; first | (go_simp; done) | (go_simp; with_reducible rfl)
            try simp only [Act.put, List.setIfInBounds_toArray, List.set_cons_zero, List.set_cons_succ]
            refine AnyZ.step (i := 14) rfl (by kernel_rfl) (fun K hK => ?_)
            go_simp
            go_at_call 52
            with_reducible refine (HA9.out _ (Ext.trans (Ext.drew w7) (Ext.trans EX1.out (Ext.trans EX2.out EX3.out)))).mono ?_
            rintro e wn4 ⟨v4, rfl, o4, e4⟩
            have EX4 := hide e4
            obtain ⟨btA, btc, rfl, B4⟩ := BtP.own (B' := wh.heap.size) o4 (Ext.trans HEW.out (Ext.trans (Ext.drew w7) (Ext.trans EX1.out (Ext.trans EX2.out EX3.out)))).size
            have BB4 := hide B4
            clear o4 e4 B4
            refine hK.out _ _ (fun h => HSY.out.ext (Ext.trans (Ext.drew w7) (Ext.trans EX1.out (Ext.trans EX2.out (Ext.trans EX3.out EX4.out))))) ?_
            clear hK K
            try simp only [Act.put, List.setIfInBounds_toArray, List.set_cons_zero, List.set_cons_succ]
            refine AnyZ.takeE (i := 15) (d := 57) (oi := _) (v := ?_) rfl rfl rfl (by kernel_rfl) (by kernel_rfl) (by kernel_rfl) (by kernel_rfl) (by kernel_rfl) (by kernel_rfl) (fun _ _ _ h => h) (Or.inl ⟨by rfl, ?_⟩) (HSY.out.ext (Ext.trans (Ext.drew w7) (Ext.trans EX1.out (Ext.trans EX2.out (Ext.trans EX3.out EX4.out))))) ?_
            rotate_left
            · intro W hW; obtain ⟨s0, s1, s2, s3, s4, s5, s6, s7, s8, s9⟩ := hW; first | (go_simp; done) | (go_simp; with_reducible rfl)
            try simp only [Act.put, List.setIfInBounds_toArray, List.set_cons_zero, List.set_cons_succ]
            refine AnyZ.step (i := 16) rfl (by kernel_rfl) (fun K hK => ?_)
            go_simp
            have BX5 := hide (four_bxs (W := wn4) (B := wh.heap.size) (Ext.trans HEW.out (Ext.trans (Ext.drew w7) (Ext.trans EX1.out (Ext.trans EX2.out (Ext.trans EX3.out EX4.out))))).size (NB2.out.ext (Ext.trans EX3.out EX4.out)) (RB1.out.ext (Ext.trans EX2.out (Ext.trans EX3.out EX4.out))) (EB3.out.ext EX4.out) BB4.out)
            refine gen_hk hK fun wn5 hwn5 => ?_
            have EX5 : Hid (Ext wn4 wn5) := hide (by rw [hwn5]; exact Ext.alloc _ _)
            have BY5 : Hid (BxOk wn5 (G1 wh.heap.size wn5) ⟨kTrck, 0, none, 0, 0, some ⟨wn4.heap.size, 0, none⟩, 4, 4⟩ TB) := hide (by rw [hwn5, HTBE.out]; exact BX5.out)
            refine ⟨fun h => HSY.out.ext (Ext.trans (Ext.drew w7) (Ext.trans EX1.out (Ext.trans EX2.out (Ext.trans EX3.out (Ext.trans EX4.out EX5.out))))), ?_⟩
            clear hK K hwn5 BX5
            try simp only [Act.put, List.setIfInBounds_toArray, List.set_cons_zero, List.set_cons_succ]
            refine AnyZ.takeE (i := 17) (d := 59) (oi := _) (v := ?_) rfl rfl rfl (by kernel_rfl) (by kernel_rfl) (by kernel_rfl) (by kernel_rfl) (by kernel_rfl) (by kernel_rfl) (fun _ _ _ h => h) (Or.inl ⟨by rfl, ?_⟩) (HSY.out.ext (Ext.trans (Ext.drew w7) (Ext.trans EX1.out (Ext.trans EX2.out (Ext.trans EX3.out (Ext.trans EX4.out EX5.out)))))) ?_
            rotate_left
            · intro W hW; obtain ⟨s0, s1, s2, s3, s4, s5, s6, s7, s8, s9⟩ := hW; first | (go_simp; done) | (go_simp; with_reducible rfl)
            try simp only [Act.put, List.setIfInBounds_toArray, List.set_cons_zero, List.set_cons_succ]
            refine AnyZ.step (i := 18) rfl (by kernel_rfl) (fun K hK => ?_)
            go_simp
            refine gen_hk hK fun wn6 hwn6 => ?_
            have EX6 : Hid (Ext wn5 wn6) := hide (by rw [hwn6]; exact Ext.alloc _ _)
            have AT6 : Hid (At wn6 4 eBx (some ⟨wn5.heap.size, 0, none⟩) 1 1 [(⟨kTrck, 0, none, 0, 0, some ⟨wn4.heap.size, 0, none⟩, 4, 4⟩ : BoxH)]) := hide (by rw [hwn6]; exact At.newE (enc := eBx) wn5 _ _ _ rfl)
            refine ⟨fun h => HSY.out.ext (Ext.trans (Ext.drew w7) (Ext.trans EX1.out (Ext.trans EX2.out (Ext.trans EX3.out (Ext.trans EX4.out (Ext.trans EX5.out EX6.out)))))), ?_⟩
            clear hK K hwn6
            try simp only [Act.put, List.setIfInBounds_toArray, List.set_cons_zero, List.set_cons_succ]
            refine AnyZ.step (i := 19) rfl (by kernel_rfl) (fun K hK => ?_)
            have EA := hide (Ext.trans HEW.out (Ext.trans (Ext.drew w7) (Ext.trans EX1.out (Ext.trans EX2.out (Ext.trans EX3.out (Ext.trans EX4.out (Ext.trans EX5.out EX6.out)))))))
            have OA := hide (HFH.out.1.own.ext EA.out)
            have SA : Hid (w0.heap.size ≤ wn6.heap.size) := hide (Nat.le_trans HFH.out.2.size EA.out.size)
            refine step_append_at rfl _ _ 45 rfl w0.heap.size 47 i0_ _ 72 Try.underlying45 hi0 hz0 hz1 hz2 rfl (by omega) len_eBx one_eBx _ hk (by rfl) OA.out (some ⟨wn5.heap.size, 0, none⟩) 1 1 _ (by rfl) AT6.out S1.out.1 S1.out.2 SA.out ?_
            intro v9 w9 o9 g9 _ r9
            have F9 : Hid (RwO w9 w0.heap.size fb v9 _ (KS0 ++ [TB]) ∧ Ext w0 w9) := hide ⟨HFH.out.1.snoc HFH.out.2.size (by have := HFH.out.2.size; have := Z0.out; omega) EA.out (okG1 BY5.out EX6.out) o9 g9 r9, OA.out.below (Ext.trans HFH.out.2 EA.out) g9 (Nat.le_refl _)⟩
            have SX9 := hide ((HSY.out.ext (Ext.trans (Ext.drew w7) (Ext.trans EX1.out (Ext.trans EX2.out (Ext.trans EX3.out (Ext.trans EX4.out (Ext.trans EX5.out EX6.out))))))).grow g9 HNB.out.1 HNB.out.2)
            clear o9 g9 r9
            refine hK.out _ _ (fun h => SX9.out) ?_
            clear hK K
            try simp only [Act.put, List.setIfInBounds_toArray, List.set_cons_zero, List.set_cons_succ]
            refine AnyZ.step (i := 20) rfl (by kernel_rfl) (fun K hK => ?_)
            go_simp
            refine hK.out _ _ (fun h => ?_) ?_
            · exact absurd (h.symm.trans (show _ = true by kernel_rfl)) (by simp)
            clear hK K
            try simp only [Act.put, List.setIfInBounds_toArray, List.set_cons_zero, List.set_cons_succ]
            refine AnyZ.done (by kernel_rfl) ?_ _
            clear SX9
            go_wp2_with fail
            exact ⟨⟨i + 1, _, by omega, by go_num, hide (by rw [HKS1.out, HKS.out]; exact F9.out)⟩, by simp [intOf]; omega⟩
          · go_simp
            go_at_call 51
            with_reducible refine (HA8.out _ (Ext.trans (Ext.drew w7) EX1.out)).mono ?_
            rintro e wn2 ⟨v2, rfl, o2, e2⟩
            have EX2 := hide e2
            obtain ⟨edA, edc, rfl, B2⟩ := BtP.own (B' := wh.heap.size) o2 (Ext.trans HEW.out (Ext.trans (Ext.drew w7) EX1.out)).size
            have EB2 := hide B2
            clear o2 e2 B2
            refine hK.out _ _ (fun h => HSY.out.ext (Ext.trans (Ext.drew w7) (Ext.trans EX1.out EX2.out))) ?_
            clear hK K
            try simp only [Act.put, List.setIfInBounds_toArray, List.set_cons_zero, List.set_cons_succ]
            refine AnyZ.takeE (i := 12) (d := 54) (oi := _) (v := ?_) rfl rfl rfl (by kernel_rfl) (by kernel_rfl) (by kernel_rfl) (by kernel_rfl) (by kernel_rfl) (by kernel_rfl) (fun _ _ _ h => h) (Or.inl ⟨by rfl, ?_⟩) (HSY.out.ext (Ext.trans (Ext.drew w7) (Ext.trans EX1.out EX2.out))) ?_
            rotate_left
            · intro W hW; obtain ⟨s0, s1, s2, s3, s4, s5, s6, s7, s8, s9⟩ := hW; first | (go_simp; done) | (go_simp; with_reducible rfl)
            try simp only [Act.put, List.setIfInBounds_toArray, List.set_cons_zero, List.set_cons_succ]
            refine AnyZ.many (i := 3) (r := [14]) (by kernel_rfl) (AllZ.cons rfl (fun K hK => ?_) (AllZ.cons rfl (fun K hK => ?_) trivial))
            · have hcv := conv_str wn2 xn
              go_simp
              obtain ⟨wn3, hwn3⟩ : ∃ w, w = Go.Lib.bytesWorld wn2 5 ⟨xn.toArray⟩ := ⟨_, rfl⟩
              have EX3 : Hid (Ext wn2 wn3) := hide (by rw [hwn3]; exact bytesW_ext _ _ _)
              have NB3 := hide (show BtP wn3 wh.heap.size _ _ _ xn by rw [hwn3]; exact (bytesW_at wn2 xn (by have := HNL.out; omega)).low (Ext.trans HEW.out (Ext.trans (Ext.drew w7) (Ext.trans EX1.out EX2.out))).size)
              rw [← hwn3]
              clear hwn3 hcv
              refine hK.out _ _ (fun h => HSY.out.ext (Ext.trans (Ext.drew w7) (Ext.trans EX1.out (Ext.trans EX2.out EX3.out)))) ?_
              clear hK K
              try simp only [Act.put, List.setIfInBounds_toArray, List.set_cons_zero, List.set_cons_succ]
              refine AnyZ.takeE (i := 4) (d := 46) (oi := _) (v := ?_) rfl rfl rfl (by kernel_rfl) (by kernel_rfl) (by kernel_rfl) (by kernel_rfl) (by kernel_rfl) (by kernel_rfl) (fun _ _ _ h => h) (Or.inl ⟨by rfl, ?_⟩) (HSY.out.ext (Ext.trans (Ext.drew w7) (Ext.trans EX1.out (Ext.trans EX2.out EX3.out)))) ?_
              rotate_left
              · intro W hW; obtain ⟨s0, s1, s2, s3, s4, s5, s6, s7, s8, s9⟩ := hW; first | (go_simp; done) | (go_simp; with_reducible rfl)
              try simp only [Act.put, List.setIfInBounds_toArray, List.set_cons_zero, List.set_cons_succ]
              refine AnyZ.step (i := 14) rfl (by kernel_rfl) (fun K hK => ?_)
              go_simp
              go_at_call 52
              with_reducible refine (HA9.out _ (Ext.trans (Ext.drew w7) (Ext.trans EX1.out (Ext.trans EX2.out EX3.out)))).mono ?_
              rintro e wn4 ⟨v4, rfl, o4, e4⟩
              have EX4 := hide e4
              obtain ⟨btA, btc, rfl, B4⟩ := BtP.own (B' := wh.heap.size) o4 (Ext.trans HEW.out (Ext.trans (Ext.drew w7) (Ext.trans EX1.out (Ext.trans EX2.out EX3.out)))).size
              have BB4 := hide B4
              clear o4 e4 B4
              refine hK.out _ _ (fun h => HSY.out.ext (Ext.trans (Ext.drew w7) (Ext.trans EX1.out (Ext.trans EX2.out (Ext.trans EX3.out EX4.out))))) ?_
              clear hK K
              try simp only [Act.put, List.setIfInBounds_toArray, List.set_cons_zero, List.set_cons_succ]
              refine AnyZ.takeE (i := 15) (d := 57) (oi := _) (v := ?_) rfl rfl rfl (by kernel_rfl) (by kernel_rfl) (by kernel_rfl) (by kernel_rfl) (by kernel_rfl) (by kernel_rfl) (fun _ _ _ h => h) (Or.inl ⟨by rfl, ?_⟩) (HSY.out.ext (Ext.trans (Ext.drew w7) (Ext.trans EX1.out (Ext.trans EX2.out (Ext.trans EX3.out EX4.out))))) ?_
              rotate_left
              · intro W hW; obtain ⟨s0, s1, s2, s3, s4, s5, s6, s7, s8, s9⟩ := hW; first | (go_simp; done) | (go_simp; with_reducible rfl)
              try simp only [Act.put, List.setIfInBounds_toArray, List.set_cons_zero, List.set_cons_succ]
              refine AnyZ.step (i := 16) rfl (by kernel_rfl) (fun K hK => ?_)
              go_simp
              have BX5 := hide (four_bxs (W := wn4) (B := wh.heap.size) (Ext.trans HEW.out (Ext.trans (Ext.drew w7) (Ext.trans EX1.out (Ext.trans EX2.out (Ext.trans EX3.out EX4.out))))).size (NB3.out.ext EX4.out) (RB1.out.ext (Ext.trans EX2.out (Ext.trans EX3.out EX4.out))) (EB2.out.ext (Ext.trans EX3.out EX4.out)) BB4.out)
              refine gen_hk hK fun wn5 hwn5 => ?_
              have EX5 : Hid (Ext wn4 wn5) := hide (by rw [hwn5]; exact Ext.alloc _ _)
              have BY5 : Hid (BxOk wn5 (G1 wh.heap.size wn5) ⟨kTrck, 0, none, 0, 0, some ⟨wn4.heap.size, 0, none⟩, 4, 4⟩ TB) := hide (by rw [hwn5, HTBE.out]; exact BX5.out)
              refine ⟨fun h => HSY.out.ext (Ext.trans (Ext.drew w7) (Ext.trans EX1.out (Ext.trans EX2.out (Ext.trans EX3.out (Ext.trans EX4.out EX5.out))))), ?_⟩
              clear hK K hwn5 BX5
              try simp only [Act.put, List.setIfInBounds_toArray, List.set_cons_zero, List.set_cons_succ]
              refine AnyZ.takeE (i := 17) (d := 59) (oi := _) (v := ?_) rfl rfl rfl (by kernel_rfl) (by kernel_rfl) (by kernel_rfl) (by kernel_rfl) (by kernel_rfl) (by kernel_rfl) (fun _ _ _ h => h) (Or.inl ⟨by rfl, ?_⟩) (HSY.out.ext (Ext.trans (Ext.drew w7) (Ext.trans EX1.out (Ext.trans EX2.out (Ext.trans EX3.out (Ext.trans EX4.out EX5.out)))))) ?_
              rotate_left
              · intro W hW; obtain ⟨s0, s1, s2, s3, s4, s5, s6, s7, s8, s9⟩ := hW; first | (go_simp; done) | (go_simp; with_reducible rfl)
              try simp only [Act.put, List.setIfInBounds_toArray, List.set_cons_zero, List.set_cons_succ]
              refine AnyZ.step (i := 18) rfl (by kernel_rfl) (fun K hK => ?_)
              go_simp
              refine gen_hk hK fun wn6 hwn6 => ?_
              have EX6 : Hid (Ext wn5 wn6) := hide (by rw [hwn6]; exact Ext.alloc _ _)
              have AT6 : Hid (At wn6 4 eBx (some ⟨wn5.heap.size, 0, none⟩) 1 1 [(⟨kTrck, 0, none, 0, 0, some ⟨wn4.heap.size, 0, none⟩, 4, 4⟩ : BoxH)]) := hide (by rw [hwn6]; exact At.newE (enc := eBx) wn5 _ _ _ rfl)
              refine ⟨fun h => HSY.out.ext (Ext.trans (Ext.drew w7) (Ext.trans EX1.out (Ext.trans EX2.out (Ext.trans EX3.out (Ext.trans EX4.out (Ext.trans EX5.out EX6.out)))))), ?_⟩
              clear hK K hwn6
              try simp only [Act.put, List.setIfInBounds_toArray, List.set_cons_zero, List.set_cons_succ]
              refine AnyZ.step (i := 19) rfl (by kernel_rfl) (fun K hK => ?_)
              have EA := hide (Ext.trans HEW.out (Ext.trans (Ext.drew w7) (Ext.trans EX1.out (Ext.trans EX2.out (Ext.trans EX3.out (Ext.trans EX4.out (Ext.trans EX5.out EX6.out)))))))
              have OA := hide (HFH.out.1.own.ext EA.out)
              have SA : Hid (w0.heap.size ≤ wn6.heap.size) := hide (Nat.le_trans HFH.out.2.size EA.out.size)
              refine step_append_at rfl _ _ 45 rfl w0.heap.size 47 i0_ _ 72 Try.underlying45 hi0 hz0 hz1 hz2 rfl (by omega) len_eBx one_eBx _ hk (by rfl) OA.out (some ⟨wn5.heap.size, 0, none⟩) 1 1 _ (by rfl) AT6.out S1.out.1 S1.out.2 SA.out ?_
              intro v9 w9 o9 g9 _ r9
              have F9 : Hid (RwO w9 w0.heap.size fb v9 _ (KS0 ++ [TB]) ∧ Ext w0 w9) := hide ⟨HFH.out.1.snoc HFH.out.2.size (by have := HFH.out.2.size; have := Z0.out; omega) EA.out (okG1 BY5.out EX6.out) o9 g9 r9, OA.out.below (Ext.trans HFH.out.2 EA.out) g9 (Nat.le_refl _)⟩
              have SX9 := hide ((HSY.out.ext (Ext.trans (Ext.drew w7) (Ext.trans EX1.out (Ext.trans EX2.out (Ext.trans EX3.out (Ext.trans EX4.out (Ext.trans EX5.out EX6.out))))))).grow g9 HNB.out.1 HNB.out.2)
              clear o9 g9 r9
              refine hK.out _ _ (fun h => SX9.out) ?_
              clear hK K
              try simp only [Act.put, List.setIfInBounds_toArray, List.set_cons_zero, List.set_cons_succ]
              refine AnyZ.step (i := 20) rfl (by kernel_rfl) (fun K hK => ?_)
              go_simp
              refine hK.out _ _ (fun h => ?_) ?_
              · exact absurd (h.symm.trans (show _ = true by kernel_rfl)) (by simp)
              clear hK K
              try simp only [Act.put, List.setIfInBounds_toArray, List.set_cons_zero, List.set_cons_succ]
              refine AnyZ.done (by kernel_rfl) ?_ _
              clear SX9
              go_wp2_with fail
              exact ⟨⟨i + 1, _, by omega, by go_num, hide (by rw [HKS1.out, HKS.out]; exact F9.out)⟩, by simp [intOf]; omega⟩
            · go_simp
              go_at_call 52
              with_reducible refine (HA9.out _ (Ext.trans (Ext.drew w7) (Ext.trans EX1.out EX2.out))).mono ?_
              rintro e wn3 ⟨v3, rfl, o3, e3⟩
              have EX3 := hide e3
              obtain ⟨btA, btc, rfl, B3⟩ := BtP.own (B' := wh.heap.size) o3 (Ext.trans HEW.out (Ext.trans (Ext.drew w7) (Ext.trans EX1.out EX2.out))).size
              have BB3 := hide B3
              clear o3 e3 B3
              refine hK.out _ _ (fun h => HSY.out.ext (Ext.trans (Ext.drew w7) (Ext.trans EX1.out (Ext.trans EX2.out EX3.out)))) ?_
              clear hK K
              try simp only [Act.put, List.setIfInBounds_toArray, List.set_cons_zero, List.set_cons_succ]
              refine AnyZ.takeE (i := 15) (d := 57) (oi := _) (v := ?_) rfl rfl rfl (by kernel_rfl) (by kernel_rfl) (by kernel_rfl) (by kernel_rfl) (by kernel_rfl) (by kernel_rfl) (fun _ _ _ h => h) (Or.inl ⟨by rfl, ?_⟩) (HSY.out.ext (Ext.trans (Ext.drew w7) (Ext.trans EX1.out (Ext.trans EX2.out EX3.out)))) ?_
              rotate_left
              · intro W hW; obtain ⟨s0, s1, s2, s3, s4, s5, s6, s7, s8, s9⟩ := hW; first | (go_simp; done) | (go_simp; with_reducible rfl)
              try simp only [Act.put, List.setIfInBounds_toArray, List.set_cons_zero, List.set_cons_succ]
              refine AnyZ.step (i := 3) rfl (by kernel_rfl) (fun K hK => ?_)
              have hcv := conv_str wn3 xn
              go_simp
              obtain ⟨wn4, hwn4⟩ : ∃ w, w = Go.Lib.bytesWorld wn3 5 ⟨xn.toArray⟩ := ⟨_, rfl⟩
              have EX4 : Hid (Ext wn3 wn4) := hide (by rw [hwn4]; exact bytesW_ext _ _ _)
              have NB4 := hide (show BtP wn4 wh.heap.size _ _ _ xn by rw [hwn4]; exact (bytesW_at wn3 xn (by have := HNL.out; omega)).low (Ext.trans HEW.out (Ext.trans (Ext.drew w7) (Ext.trans EX1.out (Ext.trans EX2.out EX3.out)))).size)
              rw [← hwn4]
              clear hwn4 hcv
              refine hK.out _ _ (fun h => HSY.out.ext (Ext.trans (Ext.drew w7) (Ext.trans EX1.out (Ext.trans EX2.out (Ext.trans EX3.out EX4.out))))) ?_
              clear hK K
              try simp only [Act.put, List.setIfInBounds_toArray, List.set_cons_zero, List.set_cons_succ]
              refine AnyZ.takeE (i := 4) (d := 46) (oi := _) (v := ?_) rfl rfl rfl (by kernel_rfl) (by kernel_rfl) (by kernel_rfl) (by kernel_rfl) (by kernel_rfl) (by kernel_rfl) (fun _ _ _ h => h) (Or.inl ⟨by rfl, ?_⟩) (HSY.out.ext (Ext.trans (Ext.drew w7) (Ext.trans EX1.out (Ext.trans EX2.out (Ext.trans EX3.out EX4.out))))) ?_
              rotate_left
              · intro W hW; obtain ⟨s0, s1, s2, s3, s4, s5, s6, s7, s8, s9⟩ := hW; first | (go_simp; done) | (go_simp; with_reducible rfl)
              try simp only [Act.put, List.setIfInBounds_toArray, List.set_cons_zero, List.set_cons_succ]
              refine AnyZ.step (i := 16) rfl (by kernel_rfl) (fun K hK => ?_)
              go_simp
              have BX5 := hide (four_bxs (W := wn4) (B := wh.heap.size) (Ext.trans HEW.out (Ext.trans (Ext.drew w7) (Ext.trans EX1.out (Ext.trans EX2.out (Ext.trans EX3.out EX4.out))))).size NB4.out (RB1.out.ext (Ext.trans EX2.out (Ext.trans EX3.out EX4.out))) (EB2.out.ext (Ext.trans EX3.out EX4.out)) (BB3.out.ext EX4.out))
              refine gen_hk hK fun wn5 hwn5 => ?_
              have EX5 : Hid (Ext wn4 wn5) := hide (by rw [hwn5]; exact Ext.alloc _ _)
              have BY5 : Hid (BxOk wn5 (G1 wh.heap.size wn5) ⟨kTrck, 0, none, 0, 0, some ⟨wn4.heap.size, 0, none⟩, 4, 4⟩ TB) := hide (by rw [hwn5, HTBE.out]; exact BX5.out)
              refine ⟨fun h => HSY.out.ext (Ext.trans (Ext.drew w7) (Ext.trans EX1.out (Ext.trans EX2.out (Ext.trans EX3.out (Ext.trans EX4.out EX5.out))))), ?_⟩
              clear hK K hwn5 BX5
              try simp only [Act.put, List.setIfInBounds_toArray, List.set_cons_zero, List.set_cons_succ]
              refine AnyZ.takeE (i := 17) (d := 59) (oi := _) (v := ?_) rfl rfl rfl (by kernel_rfl) (by kernel_rfl) (by kernel_rfl) (by kernel_rfl) (by kernel_rfl) (by kernel_rfl) (fun _ _ _ h => h) (Or.inl ⟨by rfl, ?_⟩) (HSY.out.ext (Ext.trans (Ext.drew w7) (Ext.trans EX1.out (Ext.trans EX2.out (Ext.trans EX3.out (Ext.trans EX4.out EX5.out)))))) ?_
              rotate_left
              · intro W hW; obtain ⟨s0, s1, s2, s3, s4, s5, s6, s7, s8, s9⟩ := hW; first | (go_simp; done) | (go_simp; with_reducible rfl)
              try simp only [Act.put, List.setIfInBounds_toArray, List.set_cons_zero, List.set_cons_succ]
              refine AnyZ.step (i := 18) rfl (by kernel_rfl) (fun K hK => ?_)
              go_simp
              refine gen_hk hK fun wn6 hwn6 => ?_
              have EX6 : Hid (Ext wn5 wn6) := hide (by rw [hwn6]; exact Ext.alloc _ _)
              have AT6 : Hid (At wn6 4 eBx (some ⟨wn5.heap.size, 0, none⟩) 1 1 [(⟨kTrck, 0, none, 0, 0, some ⟨wn4.heap.size, 0, none⟩, 4, 4⟩ : BoxH)]) := hide (by rw [hwn6]; exact At.newE (enc := eBx) wn5 _ _ _ rfl)
              refine ⟨fun h => HSY.out.ext (Ext.trans (Ext.drew w7) (Ext.trans EX1.out (Ext.trans EX2.out (Ext.trans EX3.out (Ext.trans EX4.out (Ext.trans EX5.out EX6.out)))))), ?_⟩
              clear hK K hwn6
              try simp only [Act.put, List.setIfInBounds_toArray, List.set_cons_zero, List.set_cons_succ]
              refine AnyZ.step (i := 19) rfl (by kernel_rfl) (fun K hK => ?_)
              have EA := hide (Ext.trans HEW.out (Ext.trans (Ext.drew w7) (Ext.trans EX1.out (Ext.trans EX2.out (Ext.trans EX3.out (Ext.trans EX4.out (Ext.trans EX5.out EX6.out)))))))
              have OA := hide (HFH.out.1.own.ext EA.out)
              have SA : Hid (w0.heap.size ≤ wn6.heap.size) := hide (Nat.le_trans HFH.out.2.size EA.out.size)
              refine step_append_at rfl _ _ 45 rfl w0.heap.size 47 i0_ _ 72 Try.underlying45 hi0 hz0 hz1 hz2 rfl (by omega) len_eBx one_eBx _ hk (by rfl) OA.out (some ⟨wn5.heap.size, 0, none⟩) 1 1 _ (by rfl) AT6.out S1.out.1 S1.out.2 SA.out ?_
              intro v9 w9 o9 g9 _ r9
              have F9 : Hid (RwO w9 w0.heap.size fb v9 _ (KS0 ++ [TB]) ∧ Ext w0 w9) := hide ⟨HFH.out.1.snoc HFH.out.2.size (by have := HFH.out.2.size; have := Z0.out; omega) EA.out (okG1 BY5.out EX6.out) o9 g9 r9, OA.out.below (Ext.trans HFH.out.2 EA.out) g9 (Nat.le_refl _)⟩
              have SX9 := hide ((HSY.out.ext (Ext.trans (Ext.drew w7) (Ext.trans EX1.out (Ext.trans EX2.out (Ext.trans EX3.out (Ext.trans EX4.out (Ext.trans EX5.out EX6.out))))))).grow g9 HNB.out.1 HNB.out.2)
              clear o9 g9 r9
              refine hK.out _ _ (fun h => SX9.out) ?_
              clear hK K
              try simp only [Act.put, List.setIfInBounds_toArray, List.set_cons_zero, List.set_cons_succ]
              refine AnyZ.step (i := 20) rfl (by kernel_rfl) (fun K hK => ?_)
              go_simp
              refine hK.out _ _ (fun h => ?_) ?_
              · exact absurd (h.symm.trans (show _ = true by kernel_rfl)) (by simp)
              clear hK K
              try simp only [Act.put, List.setIfInBounds_toArray, List.set_cons_zero, List.set_cons_succ]
              refine AnyZ.done (by kernel_rfl) ?_ _
              clear SX9
              go_wp2_with fail
              exact ⟨⟨i + 1, _, by omega, by go_num, hide (by rw [HKS1.out, HKS.out]; exact F9.out)⟩, by simp [intOf]; omega⟩
    · obtain rfl : i = n := by omega
      obtain ⟨kA2, kc2, hv2, _⟩ := HF.out.1.own.at_ len_eBx
      subst hv2
      have HFIN : Hid (BxG w [.mk kFilm 0 [] (kidsB sc T ch pl i), dataB dat] (.returned (.slice (some ⟨wr.heap.size, 0, none⟩) 2 2)) (wr.alloc (.cells #[.string ⟨#[102, 105, 108, 109]⟩, .int .i64 0, .slice none 0 0, .slice kA2 hk.length kc2, .string ⟨#[100, 97, 116, 97]⟩, .int .i64 0, .slice dA dn dc, .slice none 0 0] 47))) := hide (by
        have hw := Ext.trans E0.out HF.out.2
        refine ⟨wr.heap.size, rfl, ?_, Ext.trans hw (Ext.alloc _ _)⟩
        have ho := own_lit wr #[.string ⟨#[102, 105, 108, 109]⟩, .int .i64 0, .slice none 0 0, .slice kA2 hk.length kc2, .string ⟨#[100, 97, 116, 97]⟩, .int .i64 0, .slice dA dn dc, .slice none 0 0] [(⟨kFilm, 0, none, 0, 0, kA2, hk.length, kc2⟩ : BoxH), hdB kData dA dn dc] rfl len_eBx wr.heap.size (Nat.le_refl _) (by unfold maxLen; simp) (t := 47)
        have k1 := (HF.out.1.ext (Ext.alloc wr (.cells #[.string ⟨#[102, 105, 108, 109]⟩, .int .i64 0, .slice none 0 0, .slice kA2 hk.length kc2, .string ⟨#[100, 97, 116, 97]⟩, .int .i64 0, .slice dA dn dc, .slice none 0 0] 47))).at_.good (H := fun _ => True) (fun _ _ => rfl) (fun _ _ => trivial)
        have k2 := HDA.out.ext (Ext.trans hw (Ext.alloc wr (.cells #[.string ⟨#[102, 105, 108, 109]⟩, .int .i64 0, .slice none 0 0, .slice kA2 hk.length kc2, .string ⟨#[100, 97, 116, 97]⟩, .int .i64 0, .slice dA dn dc, .slice none 0 0] 47)))
        refine .mk _ _ (ho.atS len_eBx) (fun a _ => trivial) rfl (fun j y x hy hx => ?_) (fun j y x hy hx => ?_)
        · match j, hy, hx with
          | 0, hy, hx => simp at hy hx; subst hy hx; exact ⟨rfl, rfl, At.nil _ _ _, fun a _ => trivial⟩
          | 1, hy, hx => simp at hy hx; subst hy hx; exact ⟨rfl, rfl, k2, fun a _ => trivial⟩
          | j + 2, hy, hx => simp at hy
        · match j, hy, hx with
          | 0, hy, hx => simp at hy hx; subst hy hx; exact k1
          | 1, hy, hx => simp at hy hx; subst hy hx; exact .mk [] [] (At.nil _ _ _) (fun a ha => by cases ha) rfl (fun i y x hy _ => by simp at hy) (fun i y x hy _ => by simp at hy)
          | j + 2, hy, hx => simp at hy)
      clear hlt
      go_wp2_with fail
      go_ret
      exact HFIN.out
end Go.Proofs.Ytlonhkjplijlcaa
