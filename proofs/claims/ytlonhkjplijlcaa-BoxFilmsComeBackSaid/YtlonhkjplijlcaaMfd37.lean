/- Several texts in one: Boxes in plain words: what is read is written as it was, and what is written is read as it was. Plain; Walk: sizeOf (program). Conditions as stated; Films as bytes, in plain words. Plain but for the words of tracks; Plain: a film's boxes are read as they were written. Conditions as stated. -/
import Derived.Test.YtlonhkjplijlcaaMfd36
import Derived.Test.YtlonhkjplijlcaaMfd06
namespace Go.Proofs.Ytlonhkjplijlcaa
theorem fauL_cons {k : List UInt8} {f : Int} {d : List UInt8} {l r : List BoxT} {dep c m m' : Nat} (h1 : ¬ (2000 < c + 1 ∨ 8 ≤ dep)) (h2 : elB k f d l.length r.isEmpty = 0) (h3 : fauL l (dep + 1) (c + 1) = (0, m')) (h4 : fauL r dep m' = (0, m)) :
    fauL (.mk k f d l :: r) dep c = (0, m) := by
  rw [fauL, if_neg h1, if_neg (by omega), h3, if_neg (by simp)]
  exact h4
theorem elB_of {k : List UInt8} {f : Int} {d : List UInt8} {n : Nat} {last : Bool} (h1 : isKindB k = true) (h2 : f = 0 ∨ f = 1 ∨ f = 2) (h3 : hasKidsB k = true → d = []) (h4 : hasKidsB k = false → n = 0) (h5 : f = 2 → last = true) : elB k f d n last = 0 := by
  unfold elB
  rw [h1, if_neg (by simp), if_neg (by omega), if_neg, if_neg]
  · rintro ⟨hf, hl⟩
    rw [h5 hf] at hl; cases hl
  · rintro (⟨a, b⟩ | ⟨a, b⟩)
    · rw [h3 a] at b; exact absurd b (Nat.lt_irrefl _)
    · rw [h4 a] at b; exact absurd b (Nat.lt_irrefl _)
theorem byt_parse {b : List UInt8} (hb : b.length < 4294967296) : ∀ (l : List BoxT) (f tt_ dep c m : Nat), fauL l dep c = (0, m) → f ≤ tt_ → tt_ ≤ b.length → cutB b f tt_ = bytL l → ∃ ns, parF b f tt_ dep c = .ok ns m ∧ boxesOf b ns = l
  | [], f, tt_, dep, c, m, hfl, hft, htb, hcut => by
    rw [fauL] at hfl
    injection hfl with _ h2
    subst h2
    have := congrArg List.length hcut
    rw [cutB_ln htb, bytL] at this
    refine ⟨[], parF_end (by simp at this; omega), by rw [boxesOf]⟩
  | .mk k fo d kl :: r, f, tt_, dep, c, m, hfl, hft, htb, hcut => by
    obtain ⟨h1, h2, m', h3, h4⟩ := fauL_ok hfl
    obtain ⟨e1, e2, e3, e4, e5⟩ := elB_ok h2
    have hl1 := bytL_len _ _ _ _ h3
    have hl2 := bytL_len _ _ _ _ h4
    have hk4 := kind_len e1
    rw [bytL, bytT] at hcut
    obtain ⟨N, hN⟩ : ∃ N, N = 8 + d.length + (if fo = 1 then 8 else 0) + sizeL kl := ⟨_, rfl⟩
    rw [← hN] at hcut
    obtain ⟨H, hH⟩ : ∃ H, H = 8 + (if fo = 1 then 8 else 0) := ⟨_, rfl⟩
    have hhl : (headB k fo N).length = H := by rw [headB_len hk4, hH]
    obtain ⟨p1, p2, p3⟩ := cutB_split hft htb hcut
    have hbl : (headB k fo N ++ d ++ bytL kl).length = N := by rw [List.length_append, List.length_append, hhl, hl1, hH, hN]; omega
    rw [hbl] at p1 p2 p3
    rw [List.append_assoc] at p2
    obtain ⟨q1, q2, q3⟩ := cutB_split (by omega) (by omega) p2
    rw [hhl] at q1 q2 q3
    have hHN : H ≤ N := by omega
    have h8 : 8 ≤ H := by omega
    have hop : fo = 2 → f + N = tt_ := fun h5 => by
      have h6 := e5 h5
      cases r with
      | cons x r => cases h6
      | nil =>
        rw [bytL] at p3
        have := congrArg List.length p3
        rw [cutB_ln htb] at this
        simp at this
        omega
    have hhd := headP_of (b := b) (k := k) (f := fo) (n := N) (i := f) (tt_ := tt_) e1 e2 (by omega) htb p1 (by rw [← hH]; exact hHN) hop (by rw [← hH]; exact q2)
    rw [← hH] at hhd
    obtain ⟨rs, hr1, hr2⟩ := byt_parse hb r (f + N) tt_ dep m' m h4 p1 htb p3
    cases hk : hasKidsB k with
    | true =>
      have hd := e3 hk
      subst hd
      rw [List.nil_append] at q3
      obtain ⟨ks, hk1, hk2⟩ := byt_parse hb kl (f + H) (f + N) (dep + 1) (c + 1) m' h3 (by omega) (by omega) q3
      refine ⟨[NodeT.mk k fo f (f + H) (f + N) ks] ++ rs, ?_, ?_⟩
      · rw [parF_kids (by omega) h1 hhd hk, hk1]
        show (parF b (f + N) tt_ dep m').pre _ = _
        rw [hr1]; rfl
      · show boxesOf b (NodeT.mk k fo f (f + H) (f + N) ks :: rs) = _
        rw [boxesOf, boxOf, if_pos hk, hk2, hr2]
    | false =>
      have hkl := List.eq_nil_of_length_eq_zero (e4 hk)
      subst hkl
      rw [fauL] at h3
      injection h3 with _ h3
      subst h3
      rw [bytL, List.append_nil] at q3
      refine ⟨[NodeT.mk k fo f (f + H) (f + N) []] ++ rs, ?_, ?_⟩
      · rw [parF_leaf (by omega) h1 hhd hk, hr1]; rfl
      · show boxesOf b (NodeT.mk k fo f (f + H) (f + N) [] :: rs) = _
        rw [boxesOf, boxOf, if_neg (by rw [hk]; simp), boxesOf, q3, hr2]
end Go.Proofs.Ytlonhkjplijlcaa
namespace Go.Proofs.Ytlonhkjplijlcaa
open Go.RowKit
theorem BxsAt.ext {w w' : World} {G : Nat → Prop} (he : Ext w w') {A : Option Addr} {n c : Nat} {l : List BoxT} (h : BxsAt w G A n c l) : BxsAt w' G A n c l := by
  induction h with
  | mk hs l h hg hl h1 _ ih => exact .mk hs l (h.ext he) hg hl (fun i y x hy hx => ⟨(h1 i y x hy hx).1, (h1 i y x hy hx).2.1, (h1 i y x hy hx).2.2.1.ext he, (h1 i y x hy hx).2.2.2⟩) ih
theorem BxHd.ext {w w' : World} {G : Nat → Prop} {y : BoxH} {x : BoxT} (he : Ext w w') (h : BxHd w G y x) : BxHd w' G y x := ⟨h.1, h.2.1, h.2.2.1.ext he, h.2.2.2⟩
theorem sizeT_eq (x : BoxT) : sizeT x = 8 + x.data.length + (if x.form = 1 then 8 else 0) + sizeL x.kids := by cases x; rw [sizeT]; rfl
theorem sizeL_app : ∀ (a b : List BoxT), sizeL (a ++ b) = sizeL a + sizeL b
  | [], b => by simp [sizeL]
  | x :: a, b => by rw [List.cons_append, sizeL, sizeL, sizeL_app a b]; omega
theorem sizeL_take {l : List BoxT} {k : Nat} (h : k < l.length) : sizeL (l.take (k + 1)) = sizeL (l.take k) + sizeT l[k] := by
  rw [List.take_succ_eq_append_getElem h, sizeL_app]; simp [sizeL]
theorem sizeL_le (l : List BoxT) (k : Nat) : sizeL (l.take k) ≤ sizeL l := by
  conv => rhs; rw [← List.take_append_drop k l, sizeL_app]
  omega
abbrev bxV (y : BoxH) (x : BoxT) : Value := .agg #[.string ⟨x.kind.toArray⟩, .int .i64 x.form, .slice y.dA y.dn y.dc, .slice y.kA y.kn y.kc]
def SizStmt (s : Nat) : Prop := ∀ {x : BoxT} {y : BoxH} {w : World} {G : Nat → Prop}, SizeOf.sizeOf x ≤ s → BxHd w G y x → BxsAt w G y.kA y.kn y.kc x.kids → sizeT x < 4611686018427387904 →
  Calls Try.prog 18 #[bxV y x] w fun e w' => e = .returned (.int .i64 (sizeT x : Int)) ∧ Ext w w'
set_option linter.unusedVariables false in
set_option maxRecDepth 100000 in
set_option maxHeartbeats 4000000 in
theorem size_step (s : Nat) (ih : ∀ s', s' < s → SizStmt s') : SizStmt s := by
  intro x y w G hs hh hk hb
  show Calls Try.prog 18 #[.agg #[.string ⟨x.kind.toArray⟩, .int .i64 x.form, .slice y.dA y.dn y.dc, .slice y.kA y.kn y.kc]] w _
  have hd := hh.2.2.1.len
  have hkl := hk.len
  obtain ⟨ys, ha, hy, hh1, hk1⟩ := hk.parts
  have HA := hide ha
  have HH1 := hide hh1
  have HK1 := hide hk1
  have IH := hide ih
  have HY := hide hy
  have HKL := hide hkl
  have hse := sizeT_eq x
  rw [hd] at hse
  have HSL := hide (fun (k : Nat) (h : k < x.kids.length) => sizeL_take h)
  have HSE := hide (fun (k : Nat) => sizeL_le x.kids k)
  have HSZ := hide (fun (k : Nat) (h : k < x.kids.length) => (by have := kids_lt x; have := elem_lt (List.getElem_mem h); omega : SizeOf.sizeOf x.kids[k] < s))
  have E0 := hide (Ext.alloc w (.cells #[.string ⟨x.kind.toArray⟩, .int .i64 x.form, .slice y.dA y.dn y.dc, .slice y.kA y.kn y.kc] 47))
  have HT : Hid (sizeL (x.kids.take y.kn) = sizeL x.kids) := hide (by rw [← hkl, List.take_length])
  have hkb := ha.bound
  have X0 := hide (Blk.new w 47 #[.string ⟨x.kind.toArray⟩, .int .i64 x.form, .slice y.dA y.dn y.dc, .slice y.kA y.kn y.kc])
  obtain ⟨S, hS⟩ : ∃ S, sizeT x = S := ⟨_, rfl⟩
  rw [hS] at hse hb ⊢
  have hl0 := HSE.out 0
  clear ha hh1 hk1 ih hy hkl hd hh hk hs hS
  generalize x.form = xf at *
  generalize x.kind = xk at *
  generalize y.dn = dn at *
  generalize y.dA = dA at *
  generalize y.dc = dc at *
  generalize y.kn = kn at *
  generalize y.kA = kA at *
  generalize y.kc = kc at *
  generalize x.kids = l at *
  obtain ⟨n1, hn1⟩ : ∃ n1, n1 = 8 + dn + (if xf = 1 then 8 else 0) := ⟨_, rfl⟩
  rw [← hn1] at hse
  have HN1 := hide hn1
  have hnb : n1 ≤ S := by omega
  have HSS := hide hse
  have HLE : Hid (∀ k, n1 + sizeL (l.take k) ≤ S) := hide (fun k => by have := HSE.out k; omega)
  have hdb : 8 + dn + 8 ≤ S + 8 := by split at hn1 <;> omega
  clear hse hn1 hl0
  go_enter Try.func18, Try.ntmps18
  go_upto_region 1 with (fail)
  refine gen_wpC fun w0 h0 => ?_
  have F0 : Hid (Ext w w0) := hide (by rw [h0]; exact E0.out)
  have Y0 := hide (show Blk w0 w.heap.size 47 #[.string ⟨xk.toArray⟩, .int .i64 xf, .slice dA dn dc, .slice kA kn kc] from by rw [h0]; exact X0.out)
  clear h0 E0 X0
  have y1 : w0.cell? ⟨w.heap.size, 1, none⟩ = some (.int .i64 xf) := Y0.out.cell 1
  have y2 : w0.cell? ⟨w.heap.size, 2, none⟩ = some (.slice dA dn dc) := Y0.out.cell 2
  have y3 : w0.cell? ⟨w.heap.size, 3, none⟩ = some (.slice kA kn kc) := Y0.out.cell 3
  have j1 : IntKind.i64.wrap (8 + (dn : Int)) = 8 + (dn : Int) := by rw [IntKind.wrap_i64]; omega
  have j2 : IntKind.i64.wrap (8 + (dn : Int) + 8) = 8 + (dn : Int) + 8 := by rw [IntKind.wrap_i64]; omega
  go_upto_if 12 with (fail)
  go_cut [3] (fun r3 wx => r3 = .int .i64 (n1 : Int) ∧ w0 = wx)
  case first =>
    by_cases hf : xf = 1
    · have HN2 : Hid ((n1 : Int) = 8 + (dn : Int) + 8) := hide (by have := HN1.out; rw [if_pos hf] at this; omega)
      subst hf
      go_wp2_with fail
      go_meet
      exact ⟨int_val HN2.out.symm, rfl⟩
    · have HN2 : Hid ((n1 : Int) = 8 + (dn : Int)) := hide (by have := HN1.out; rw [if_neg hf] at this; omega)
      have d0 : (xf == 1) = false := by rw [beq_eq_false_iff_ne]; exact hf
      go_wp2_with fail
      go_meet
      exact ⟨int_val HN2.out.symm, rfl⟩
  case rest =>
  obtain ⟨rfl, rfl⟩ := hcut
  clear j1 j2 y1 y2
  go_wp2_with fail
  go_loopw [3, 18] (fun r3 ri wr => ∃ k : Nat, k ≤ kn ∧ ri = .int .i64 k ∧ r3 = .int .i64 ((n1 + sizeL (l.take k) : Nat) : Int) ∧ Hid (Ext w0 wr)) (fun _ ri _ => kn - (intOf ri).toNat)
  case atStart => exact ⟨0, by omega, rfl, by simp [sizeL], hide (Ext.refl _)⟩
  case round =>
    obtain ⟨k, hk, rfl, rfl, HX⟩ := hrel
    by_cases hlt : k < kn
    · have hkl : k < l.length := by have := HKL.out; omega
      have hky : k < ys.length := by have := HY.out; omega
      have EX := Ext.trans F0.out HX.out
      have hat := HA.out.ext EX
      have hq := (HH1.out k _ _ (List.getElem?_eq_getElem hky) (List.getElem?_eq_getElem hkl)).ext EX
      have hr := (HK1.out k _ _ (List.getElem?_eq_getElem hky) (List.getElem?_eq_getElem hkl)).ext EX
      have hsz := HSZ.out k hkl
      have HSU := hide (HSL.out k hkl)
      have hle := HLE.out (k + 1)
      rw [HSU.out] at hle
      obtain ⟨b, o, rfl, _⟩ := hat.addr (by omega)
      have gy : ys.getD k default = ys[k] := by simp [List.getD, hky]
      generalize ys[k] = z at *
      generalize l[k] = u at *
      have a0 : wr.cell? ⟨b, o + k * 4, none⟩ = some (.string ⟨z.kind.toArray⟩) := hat.cellK hlt default 0 _ (by rw [gy]; rfl)
      have a1 : wr.cell? ⟨b, o + k * 4 + 1, none⟩ = some (.int .i64 z.form) := hat.cellK hlt default 1 _ (by rw [gy]; rfl)
      have a2 : wr.cell? ⟨b, o + k * 4 + 2, none⟩ = some (.slice z.dA z.dn z.dc) := hat.cellK hlt default 2 _ (by rw [gy]; rfl)
      have a3 : wr.cell? ⟨b, o + k * 4 + 3, none⟩ = some (.slice z.kA z.kn z.kc) := hat.cellK hlt default 3 _ (by rw [gy]; rfl)
      rw [hq.1] at a0
      rw [hq.2.1] at a1
      have HC := hide (IH.out _ hsz (Nat.le_refl _) (hq.ext (Ext.alloc wr (.cells #[.string ⟨u.kind.toArray⟩, .int .i64 u.form, .slice z.dA z.dn z.dc, .slice z.kA z.kn z.kc] 47))) (hr.ext (Ext.alloc wr (.cells #[.string ⟨u.kind.toArray⟩, .int .i64 u.form, .slice z.dA z.dn z.dc, .slice z.kA z.kn z.kc] 47))) (by omega))
      generalize sizeT u = su at *
      generalize sizeL (l.take k) = sl at *
      have i1 : (k : Int) < (kn : Int) := by omega
      have i0 : (0 : Int) ≤ (k : Int) := by omega
      have i8 : IntKind.i64.wrap ((k : Int) + 1) = (k : Int) + 1 := by rw [IntKind.wrap_i64]; omega
      have i9 : IntKind.i64.wrap (((n1 + sl : Nat) : Int) + (su : Int)) = ((n1 + (sl + su) : Nat) : Int) := by rw [IntKind.wrap_i64]; omega
      generalize ((n1 + sl : Nat) : Int) = acc at *
      clear hat hq hr hsz gy EX hky hkl
      go_wp2_with fail
      with_reducible refine HC.out.mono ?_
      rintro e w5 ⟨rfl, e5⟩
      have E5 := hide (Ext.trans HX.out (Ext.trans (Ext.alloc _ _) e5))
      clear e5
      go_wp2_with fail
      exact ⟨⟨k + 1, by omega, by go_num, int_val (by rw [HSU.out]; omega), E5⟩, by simp [intOf]; omega⟩
    · obtain rfl : k = kn := by omega
      have HE : Hid (((n1 + sizeL (l.take k) : Nat) : Int) = (S : Int)) := hide (by rw [HT.out]; have := HSS.out; omega)
      clear hlt
      go_wp2_with fail
      go_ret
      exact ⟨ret_int HE.out, Ext.trans F0.out HX.out⟩
theorem size_any (s : Nat) : SizStmt s := by
  induction s using Nat.strongRecOn with
  | _ s ih => exact size_step s ih
end Go.Proofs.Ytlonhkjplijlcaa
namespace Go.Proofs.Ytlonhkjplijlcaa
theorem tabBy_le {l : List Smp} {ch pl : List Int} (hl : l.length ≤ 5000) (hc : ch.length ≤ 5000) (hp : pl.length ≤ 5000) : (tabBy (cmpT l ch pl)).length ≤ 400000 := by
  have a1 := (rowK_bd Smp.step l l.length).1
  have a2 := (rowK_bd Smp.shift l l.length).1
  have a3 : (cmpT l ch pl).sizes.length ≤ 5000 := by
    unfold cmpT
    simp only
    split
    · rw [List.length_take]; omega
    · rw [szK_len]; exact hl
  have a4 : (cmpT l ch pl).keys.length ≤ 5000 := by
    unfold cmpT
    simp only
    split
    · simp
    · exact Nat.le_trans (keyK_len l l.length) hl
  have a5 := chK_len ch ch.length
  have a6 := keyB_len (cmpT l ch pl).nok (cmpT l ch pl).keys
  have a7 : (cmpT l ch pl).steps.length ≤ 5000 := Nat.le_trans a1 hl
  have a8 : (cmpT l ch pl).shifts.length ≤ 5000 := Nat.le_trans a2 hl
  have a9 : (cmpT l ch pl).chunks.length ≤ 5000 := Nat.le_trans a5 hc
  have a10 : (cmpT l ch pl).places.length ≤ 5000 := hp
  unfold tabBy
  simp only [List.length_append, liB_len, rnN_len, beN_len]
  omega
theorem leaf_size (k d : List UInt8) : sizeT (leafB k d) = 8 + d.length := by
  rw [sizeT_eq]
  show 8 + d.length + (if (0 : Int) = 1 then 8 else 0) + sizeL [] = _
  rw [if_neg (by omega)]
  rfl
theorem trk_size {x : TrkT} {ch : Nat} {pl : List Int} (hc : 1 ≤ ch) (hn : x.name.length ≤ 40) (hl : x.smp.length ≤ 5000) (he : x.ed.length ≤ 50) (hp : pl.length ≤ 5000) : sizeT (trkB x ch pl) ≤ 500000 := by
  have h1 : (ckL x.smp.length ch).length ≤ 5000 := by unfold ckL; rw [ckK_len]; exact Nat.le_trans (ckN_le hc) hl
  have h2 := tabBy_le hl h1 hp
  rw [sizeT_eq]
  show 8 + ([] : List UInt8).length + (if (0 : Int) = 1 then 8 else 0) + sizeL [leafB kName x.name, leafB kRate (beN 4 (u64N x.scale)), leafB kEdit (edB x.ed), leafB kTabl (tabBy (cmpT x.smp (ckL x.smp.length ch) pl))] ≤ _
  rw [if_neg (by omega), sizeL, sizeL, sizeL, sizeL, sizeL, leaf_size, leaf_size, leaf_size, leaf_size, beN_len, edB_len]
  simp only [List.length_nil]
  omega
theorem nmS_of {sc : Int} {T : List TrkT} (h : FilOk sc T) : nmS T := fun i hi => by
  have h1 := (trF_ok (h.tracks i hi)).1
  unfold nameB at h1
  split at h1
  · rename_i h2
    have : (⟨(T.getD i default).name.toArray⟩ : ByteArray).size = (T.getD i default).name.length := by show (T.getD i default).name.toArray.size = _; rw [List.size_toArray]
    omega
  · cases h1
theorem kids_size {sc : Int} {T : List TrkT} {ch : Nat} {P : List (List Int)} (hr : FilR T) (hn : nmS T) (hc : 1 ≤ ch) (hp : ∀ i, (P.getD i []).length ≤ 5000) : ∀ i, i ≤ T.length → sizeL (kidsB sc T ch P i) ≤ 12 + 500000 * i
  | 0, _ => by
    show sizeL [leafB kHead (beN 4 (u64N sc))] ≤ _
    rw [sizeL, sizeL, leaf_size, beN_len]
    omega
  | i + 1, hi => by
    have h1 := kids_size (sc := sc) hr hn hc hp i (by omega)
    have h2 := trk_size (pl := P.getD i []) hc (hn i (by omega)) (hr.smp i (by omega)).2 (hr.ed i (by omega)) (hp i)
    rw [kidsB, sizeL_app, sizeL, sizeL]
    omega
theorem film_size {sc : Int} {T : List TrkT} {ch : Nat} {P : List (List Int)} (hr : FilR T) (hn : nmS T) (hc : 1 ≤ ch) (hp : ∀ i, (P.getD i []).length ≤ 5000) : sizeT (filmB sc T ch P) ≤ 5000000 := by
  have h1 := kids_size (sc := sc) hr hn hc hp T.length (Nat.le_refl _)
  have h2 := hr.few
  rw [sizeT_eq]
  show 8 + ([] : List UInt8).length + (if (0 : Int) = 1 then 8 else 0) + sizeL (kidsB sc T ch P T.length) ≤ _
  rw [if_neg (by omega)]
  simp only [List.length_nil]
  omega
theorem both_size (sc : Int) (T : List TrkT) (ch : Nat) (P : List (List Int)) (d : List UInt8) : sizeL [filmB sc T ch P, dataB d] = sizeT (filmB sc T ch P) + 8 + d.length := by
  rw [sizeL, sizeL, sizeL]
  unfold dataB
  rw [leaf_size]
  omega
theorem fau_leaf {k d : List UInt8} {r : List BoxT} {dep c m : Nat} (hk : isKindB k = true) (hh : hasKidsB k = false) (hd : dep < 8) (hc : c + 1 ≤ 2000) (h : fauL r dep (c + 1) = (0, m)) : fauL (leafB k d :: r) dep c = (0, m) :=
  fauL_cons (m' := c + 1) (by omega) (elB_of hk (.inl rfl) (fun e => by rw [hh] at e; cases e) (fun _ => rfl) (fun e => by omega)) (by rw [fauL]) h
theorem fau_app {x : BoxT} {dep : Nat} : ∀ {l : List BoxT} {c m m' : Nat}, (∀ y ∈ l, y.form = 0) → fauL l dep c = (0, m) → fauL [x] dep m = (0, m') → fauL (l ++ [x]) dep c = (0, m')
  | [], c, m, m', _, h, h2 => by
    have : c = m := by rw [fauL] at h; injection h
    subst this
    exact h2
  | .mk k f d kl :: r, c, m, m', hf, h, h2 => by
    obtain ⟨h3, h4, q, h5, h6⟩ := fauL_ok h
    have hf0 : f = 0 := hf _ (List.mem_cons_self ..)
    subst hf0
    refine fauL_cons h3 ?_ h5 (fau_app (fun y hy => hf y (List.mem_cons_of_mem _ hy)) h6 h2)
    have h7 := elB_ok h4
    unfold elB at h4 ⊢
    split at h4
    · omega
    split at h4
    · omega
    split at h4
    · omega
    rename_i a1 a2 a3
    rw [if_neg a1, if_neg a2, if_neg a3, if_neg (by omega)]
theorem fau_trk {x : TrkT} {ch : Nat} {pl : List Int} {dep c : Nat} (hd : dep < 7) (hc : c + 5 ≤ 2000) : fauL [trkB x ch pl] dep c = (0, c + 5) := by
  refine fauL_cons (m' := c + 5) (by omega) (elB_of (by decide) (.inl rfl) (fun _ => rfl) (fun e => by have h0 : hasKidsB kTrck = true := (by decide); rw [h0] at e; cases e) (fun e => by omega)) ?_ (by rw [fauL])
  refine fau_leaf (by decide) (by decide) (by omega) (by omega) ?_
  refine fau_leaf (by decide) (by decide) (by omega) (by omega) ?_
  refine fau_leaf (by decide) (by decide) (by omega) (by omega) ?_
  exact fau_leaf (by decide) (by decide) (by omega) (by omega) (by rw [fauL])
theorem kids_form (sc : Int) (T : List TrkT) (ch : Nat) (P : List (List Int)) : ∀ i, ∀ y ∈ kidsB sc T ch P i, y.form = 0
  | 0, y, hy => by
    rw [kidsB, List.mem_singleton] at hy
    subst hy; rfl
  | i + 1, y, hy => by
    rw [kidsB, List.mem_append] at hy
    rcases hy with hy | hy
    · exact kids_form sc T ch P i y hy
    · rw [List.mem_singleton] at hy
      subst hy; rfl
theorem fau_kids (sc : Int) (T : List TrkT) (ch : Nat) (P : List (List Int)) {dep c : Nat} (hd : dep < 7) : ∀ i, c + 1 + 5 * i ≤ 2000 → fauL (kidsB sc T ch P i) dep c = (0, c + 1 + 5 * i)
  | 0, h => fau_leaf (by decide) (by decide) (by omega) (by omega) (by rw [fauL])
  | i + 1, h => by
    have h1 := fau_kids sc T ch P (dep := dep) (c := c) hd i (by omega)
    have h2 := fau_trk (x := T.getD i default) (ch := ch) (pl := P.getD i []) (dep := dep) (c := c + 1 + 5 * i) hd (by omega)
    rw [kidsB]
    rw [show c + 1 + 5 * (i + 1) = c + 1 + 5 * i + 5 by omega]
    exact fau_app (kids_form sc T ch P i) h1 h2
theorem fau_both (sc : Int) {T : List TrkT} (ch : Nat) (P : List (List Int)) (d : List UInt8) (h8 : T.length ≤ 8) : fauL [filmB sc T ch P, dataB d] 0 0 = (0, 2 + 5 * T.length + 1) := by
  refine fauL_cons (m' := 0 + 1 + 1 + 5 * T.length) (by omega) (elB_of (by decide) (.inl rfl) (fun _ => rfl) (fun e => by have h0 : hasKidsB kFilm = true := (by decide); rw [h0] at e; cases e) (fun e => by omega)) (fau_kids sc T ch P (by omega) T.length (by omega)) ?_
  rw [show 2 + 5 * T.length + 1 = 0 + 1 + 1 + 5 * T.length + 1 by omega]
  exact fau_leaf (by decide) (by decide) (by omega) (by omega) (by rw [fauL])
section
variable {T : List TrkT} {D : List (List UInt8)} {ch a b : Nat}
theorem layI_same {n i : Nat} {s t : LayS} (h1 : s.out = t.out) (h2 : s.pl.length = t.pl.length) (h3 : ∀ j, (s.pl.getD j []).length = (t.pl.getD j []).length) :
    (layI T D ch a n i s).out = (layI T D ch b n i t).out ∧ (layI T D ch a n i s).pl.length = (layI T D ch b n i t).pl.length ∧ ∀ j, ((layI T D ch a n i s).pl.getD j []).length = ((layI T D ch b n i t).pl.getD j []).length := by
  unfold layI
  split
  · exact ⟨h1, h2, h3⟩
  · refine ⟨by simp only [h1], by simp only [List.length_set, h2], fun j => ?_⟩
    simp only
    have h4 := h3 j
    have h5 := h3 i
    simp only [List.getD_eq_getElem?_getD, List.getElem?_set] at h4 h5 ⊢
    by_cases hij : i = j
    · subst hij
      by_cases hl : i < s.pl.length
      · have hl2 : i < t.pl.length := by omega
        simp only [hl, hl2, if_true, Option.getD_some, List.length_append, h5]
        rfl
      · have hl2 : ¬ i < t.pl.length := by omega
        simp only [hl, hl2, if_true, if_false]
    · simp only [hij, if_false, h4]
theorem layK_same {n : Nat} {s t : LayS} (h1 : s.out = t.out) (h2 : s.pl.length = t.pl.length) (h3 : ∀ j, (s.pl.getD j []).length = (t.pl.getD j []).length) : ∀ k,
    (layK T D ch a n s k).out = (layK T D ch b n t k).out ∧ (layK T D ch a n s k).pl.length = (layK T D ch b n t k).pl.length ∧ ∀ j, ((layK T D ch a n s k).pl.getD j []).length = ((layK T D ch b n t k).pl.getD j []).length
  | 0 => ⟨h1, h2, h3⟩
  | k + 1 => by
    obtain ⟨a1, a2, a3⟩ := layK_same (n := n) h1 h2 h3 k
    exact layI_same a1 a2 a3
theorem layR_same : ∀ n, (layR T D ch a n).out = (layR T D ch b n).out ∧ (layR T D ch a n).pl.length = (layR T D ch b n).pl.length ∧ ∀ j, ((layR T D ch a n).pl.getD j []).length = ((layR T D ch b n).pl.getD j []).length
  | 0 => ⟨rfl, rfl, fun _ => rfl⟩
  | n + 1 => by
    obtain ⟨a1, a2, a3⟩ := layR_same n
    exact layK_same a1 a2 a3 T.length
theorem layF_same : (layF T D ch a).out = (layF T D ch b).out ∧ ∀ j, ((layF T D ch a).pl.getD j []).length = ((layF T D ch b).pl.getD j []).length := ⟨(layR_same _).1, (layR_same _).2.2⟩
end
def headN (sc : Int) (T : List TrkT) (ch : Nat) (P : List (List Int)) : Nat := sizeT (filmB sc T ch P) + 8
def wfF (sc : Int) (T : List TrkT) (D : List (List UInt8)) (ch : Int) : Int :=
  if filF sc T ≠ 0 then filF sc T else if ch < 1 ∨ 1000 < ch then 1 else if datF T D ≠ 0 then datF T D
  else if 1000000 < headN sc T ch.toNat (layF T D ch.toNat 0).pl + (layF T D ch.toNat 0).out.length then 2 else 0
def lay2 (sc : Int) (T : List TrkT) (D : List (List UInt8)) (ch : Nat) : LayS := layF T D ch (headN sc T ch (layF T D ch 0).pl)
def wfL (sc : Int) (T : List TrkT) (D : List (List UInt8)) (ch : Nat) : List BoxT := [filmB sc T ch (lay2 sc T D ch).pl, dataB (lay2 sc T D ch).out]
def wfB (sc : Int) (T : List TrkT) (D : List (List UInt8)) (ch : Int) : List UInt8 := if wfF sc T D ch = 0 then bytL (wfL sc T D ch.toNat) else []
theorem layF_rows {T : List TrkT} {D : List (List UInt8)} {ch a : Nat} (hr : FilR T) (hc : 1 ≤ ch) (i : Nat) : ((layF T D ch a).pl.getD i []).length ≤ 5000 := (layR_few (fun i hi => (hr.smp i hi).2) hc _ i).1
theorem wf_sizes {sc : Int} {T : List TrkT} {D : List (List UInt8)} {ch : Nat} (hr : FilR T) (hn : nmS T) (hc : 1 ≤ ch) (ho : (layF T D ch 0).out.length ≤ 1000000) : sizeL (wfL sc T D ch) ≤ 10000000 := by
  have h1 := film_size (sc := sc) (P := (lay2 sc T D ch).pl) hr hn hc (fun i => layF_rows hr hc i)
  have h2 : (lay2 sc T D ch).out = (layF T D ch 0).out := layF_same.1
  unfold wfL
  rw [both_size, h2]
  omega
theorem edB_app (x y : List (Int × Int)) : edB (x ++ y) = edB x ++ edB y := by unfold edB lsB rnN; rw [List.flatMap_append, List.flatMap_append]
theorem edB_one (x y : Int) : edB [(x, y)] = beN 8 (u64N x) ++ beN 8 (u64N y) := by unfold edB lsB rnN; simp
theorem sgn8_beN {x : Int} (h : -9223372036854775808 ≤ x ∧ x ≤ 9223372036854775807) : sgn8 (beN 8 (u64N x)) = x := by
  unfold sgn8; rw [beN_numB 8 _ (u64N_lt _)]; exact wrap_u64N h
theorem edK_edB {l : List (Int × Int)} (h : ∀ k, k < l.length → badE (l.getD k (0, 0)) = false) : ∀ k, k ≤ l.length → edK (edB l) k = l.take k
  | 0, _ => by simp [edK]
  | k + 1, hk => by
    have hb := badE_ok (h k (by omega))
    have e : edB l = edB (l.take k) ++ (edB [l.getD k (0, 0)] ++ edB (l.drop (k + 1))) := by
      rw [← edB_app, ← edB_app]
      congr 1
      have := getD_take l k (0, 0) (by omega)
      rw [← List.append_assoc, ← this, List.take_append_drop]
    have hl : (edB (l.take k)).length = 16 * k := by rw [edB_len, List.length_take]; omega
    have h1 : Lies (edB l) (16 * k) (beN 8 (u64N (l.getD k (0, 0)).1) ++ beN 8 (u64N (l.getD k (0, 0)).2)) := by
      rw [e, ← List.append_assoc, ← hl, show edB [l.getD k (0, 0)] = beN 8 (u64N (l.getD k (0, 0)).1) ++ beN 8 (u64N (l.getD k (0, 0)).2) from edB_one _ _]
      exact lies_more _ (lies_end _ _)
    obtain ⟨h2, h3⟩ := lies_app.1 h1
    rw [beN_len] at h3
    rw [edK, edK_edB h k (by omega), getD_take l k (0, 0) (by omega), lies_cut h2 (beN_len 8 _), show 16 * k + 16 = 16 * k + 8 + 8 by omega, lies_cut h3 (beN_len 8 _), sgn8_beN ⟨by omega, by omega⟩, sgn8_beN ⟨by omega, by omega⟩]
theorem edR_edB {l : List (Int × Int)} (h : edF l = 0) : edR (edB l) = l := by
  have hb : ∀ k, k < l.length → badE (l.getD k (0, 0)) = false := fun k hk => by
    cases hc : badE (l.getD k (0, 0)) with
    | false => rfl
    | true => rw [edF_bad hk hc] at h; omega
  unfold edR
  rw [edB_len, show 16 * l.length / 16 = l.length by omega, edK_edB hb _ (Nat.le_refl _), List.take_length]
theorem rate_back {x : Int} (h : 1 ≤ x ∧ x ≤ 1000000000) : (numB (beN 4 (u64N x)) : Int) = x := by
  have e : ((u64N x : Nat) : Int) = x := by rw [u64N_cast, IntKind.wrap_u64]; omega
  rw [beN_numB 4 _ (by show u64N x < 4294967296; omega), e]
theorem boxes_len {b : List UInt8} {ns : List NodeT} {l : List BoxT} (h : boxesOf b ns = l) : ns.length = l.length := by rw [← h, boxesOf_map, List.length_map]
theorem boxes_get {b : List UInt8} {ns : List NodeT} {l : List BoxT} {i : Nat} {y : BoxT} (h : boxesOf b ns = l) (hy : l[i]? = some y) : ∃ x, ns[i]? = some x ∧ boxOf b x = y := by
  rw [← h, boxesOf_map, List.getElem?_map] at hy
  cases hx : ns[i]? with
  | none => rw [hx] at hy; cases hy
  | some x =>
    rw [hx] at hy
    injection hy with hy
    exact ⟨x, rfl, hy⟩
theorem leaf_node {b k d : List UInt8} {x : NodeT} (h : boxOf b x = leafB k d) (hk : hasKidsB k = false) : x.kind = k ∧ ctB b x = d := by
  obtain ⟨k', f, bg, da, en, l⟩ := x
  rw [boxOf] at h
  unfold leafB at h
  injection h with h1 h2 h3 h4
  subst h1
  rw [hk, if_neg (by simp)] at h3
  exact ⟨rfl, h3⟩
theorem kids_node {b k : List UInt8} {f : Int} {d : List UInt8} {l : List BoxT} {x : NodeT} (h : boxOf b x = .mk k f d l) : x.kind = k ∧ boxesOf b x.kids = l := by
  obtain ⟨k', f', bg, da, en, l'⟩ := x
  rw [boxOf] at h
  injection h with h1 h2 h3 h4
  exact ⟨h1, h4⟩
theorem kid_get {b : List UInt8} {ns : List NodeT} {l : List BoxT} {i en : Nat} {k d : List UInt8} (h : boxesOf b ns = l) (hy : l[i]? = some (leafB k d)) (hk : hasKidsB k = false) : ∃ x, kidR ns i k en = .ok x ∧ ctB b x = d := by
  obtain ⟨x, h1, h2⟩ := boxes_get h hy
  obtain ⟨h3, h4⟩ := leaf_node h2 hk
  refine ⟨x, ?_, h4⟩
  unfold kidR
  rw [h1]
  simp only [h3, if_true]
def tbO (x : TrkT) (ch : Nat) (pl : List Int) : Tab := cmpT x.smp (ckL x.smp.length ch) pl
def trO (x : TrkT) (ch : Nat) (pl : List Int) : TrR := ⟨x.name, x.scale, x.ed, tbO x ch pl⟩
theorem trk_back {b : List UInt8} {n : NodeT} {x : TrkT} {ch : Nat} {pl : List Int} (h : boxOf b n = trkB x ch pl) (hs : 1 ≤ x.scale ∧ x.scale ≤ 1000000000) (he : edF x.ed = 0) (hF : cmpF x.smp (ckL x.smp.length ch) pl = 0) (hlen : (tabBy (tbO x ch pl)).length ≤ 1000000) : n.kind = kTrck ∧ trkR b n = .ok (trO x ch pl) := by
  obtain ⟨hk, hl⟩ := kids_node h
  refine ⟨hk, ?_⟩
  obtain ⟨y0, a0, c0⟩ := kid_get (i := 0) (en := n.en) hl rfl (by decide)
  obtain ⟨y1, a1, c1⟩ := kid_get (i := 1) (en := n.en) hl rfl (by decide)
  obtain ⟨y2, a2, c2⟩ := kid_get (i := 2) (en := n.en) hl rfl (by decide)
  obtain ⟨y3, a3, c3⟩ := kid_get (i := 3) (en := n.en) hl rfl (by decide)
  have h4 : n.kids[4]? = none := by
    rw [List.getElem?_eq_none]
    rw [boxes_len hl]; exact Nat.le_refl _
  have hT := tb_read (cmp_right hF) (fun hn => by
    have hn : allK x.smp x.smp.length = true := hn
    show (if allK x.smp x.smp.length = true then [] else keyK x.smp x.smp.length) = []
    rw [if_pos hn]) hlen
  unfold trkR
  rw [a0]
  show (kidR n.kids 1 kRate n.en).then _ = _
  rw [a1]
  show (if (ctB b y1).length ≠ 4 then Rdr.bad y1.beg else _) = _
  rw [if_neg (by rw [c1, beN_len]; simp), a2]
  show (if (ctB b y2).length % 16 ≠ 0 then Rdr.bad y2.beg else _) = _
  rw [if_neg (by rw [c2, edB_len]; omega), a3]
  show (if rtF (ctB b y3) ≠ 0 then Rdr.bad y3.beg else _) = _
  rw [if_neg (by rw [c3]; exact fun hc => hc hT.1), h4]
  show Rdr.ok _ = Rdr.ok _
  rw [c0, c1, c2, c3, rate_back hs, edR_edB he]
  have hv : rtV (tabBy (cmpT x.smp (ckL x.smp.length ch) pl)) = tbO x ch pl := by
    unfold rtV
    rw [if_pos hT.1]; exact hT.2.1
  rw [hv]
  rfl
theorem kidsB_zero (sc : Int) (T : List TrkT) (ch : Nat) (P : List (List Int)) : ∀ n, (kidsB sc T ch P n)[0]? = some (leafB kHead (beN 4 (u64N sc)))
  | 0 => rfl
  | n + 1 => by rw [kidsB, List.getElem?_append_left (by rw [kidsB_len]; omega)]; exact kidsB_zero sc T ch P n
theorem kidsB_get (sc : Int) (T : List TrkT) (ch : Nat) (P : List (List Int)) : ∀ n i, i < n → (kidsB sc T ch P n)[i + 1]? = some (trkB (T.getD i default) ch (P.getD i []))
  | 0, i, h => absurd h (Nat.not_lt_zero _)
  | n + 1, i, h => by
    rw [kidsB]
    by_cases hi : i < n
    · rw [List.getElem?_append_left (by rw [kidsB_len]; omega)]; exact kidsB_get sc T ch P n i hi
    · obtain rfl : i = n := by omega
      rw [List.getElem?_append_right (by rw [kidsB_len]; omega), kidsB_len, Nat.sub_self]
      rfl
theorem fil_back {b : List UInt8} {n : NodeT} {sc : Int} {T : List TrkT} {ch : Nat} {P : List (List Int)} (h : boxesOf b n.kids = kidsB sc T ch P T.length) (hs : 1 ≤ sc ∧ sc ≤ 1000000000)
    (ht : ∀ i, i < T.length → (1 ≤ (T.getD i default).scale ∧ (T.getD i default).scale ≤ 1000000000) ∧ edF (T.getD i default).ed = 0 ∧ cmpF (T.getD i default).smp (ckL (T.getD i default).smp.length ch) (P.getD i []) = 0 ∧ (tabBy (tbO (T.getD i default) ch (P.getD i []))).length ≤ 1000000) :
    filR b n = .ok (sc, mapR T.length fun i => trO (T.getD i default) ch (P.getD i [])) := by
  obtain ⟨y0, a0, c0⟩ := kid_get (i := 0) (en := b.length) h (kidsB_zero sc T ch P T.length) (by decide)
  have key : ∀ k, k ≤ T.length → trksK b n.kids k = .ok (mapR k fun i => trO (T.getD i default) ch (P.getD i [])) := by
    intro k
    induction k with
    | zero => intro _; rfl
    | succ k ih =>
      intro hk
      obtain ⟨x, hx, hb⟩ := boxes_get h (kidsB_get sc T ch P T.length k (by omega))
      obtain ⟨t1, t2, t3, t4⟩ := ht k (by omega)
      obtain ⟨g1, g2⟩ := trk_back hb t1 t2 t3 t4
      rw [trksK, ih (by omega)]
      show (match n.kids[k + 1]? with | none => Rdr.ok _ | some x => _) = _
      rw [hx]
      simp only [g1, if_true, g2]
      rw [mapR_succ]
      rfl
  unfold filR
  rw [a0]
  show (if (ctB b y0).length ≠ 4 then Rdr.bad y0.beg else _) = _
  rw [if_neg (by rw [c0, beN_len]; simp)]
  have hl := boxes_len h
  rw [kidsB_len] at hl
  rw [hl, Nat.add_sub_cancel, key _ (Nat.le_refl _)]
  show Rdr.ok _ = Rdr.ok _
  rw [c0, rate_back hs]
theorem two_back {b d : List UInt8} {kl : List BoxT} {m : Nat} (hb : b = bytL [.mk kFilm 0 [] kl, dataB d]) (hlen : b.length ≤ 1000000) (hf : fauL kl 1 1 = (0, m)) (hm : m + 1 ≤ 2000) :
    ∃ ks, parseF b = .ok [.mk kFilm 0 0 8 (8 + sizeL kl) ks, .mk kData 0 (8 + sizeL kl) (8 + sizeL kl + 8) b.length []] (m + 1) ∧ boxesOf b ks = kl ∧ Lies b (8 + sizeL kl + 8) d ∧ 8 + sizeL kl + 8 + d.length = b.length := by
  have hkl := bytL_len _ _ _ _ hf
  have e1 : bytL [.mk kFilm 0 [] kl, dataB d] = headB kFilm 0 (8 + sizeL kl) ++ (bytL kl ++ (headB kData 0 (8 + d.length) ++ d)) := by
    unfold dataB leafB
    rw [bytL, bytL, bytL, bytT, bytT, bytL, sizeL]
    simp
  rw [e1] at hb
  have l1 : (headB kFilm 0 (8 + sizeL kl)).length = 8 := headB_len (by decide)
  have l2 : (headB kData 0 (8 + d.length)).length = 8 := headB_len (by decide)
  have hbl : b.length = 8 + sizeL kl + 8 + d.length := by
    rw [hb]; simp only [List.length_append, l1, l2, hkl]; omega
  have hL : Lies b 0 (headB kFilm 0 (8 + sizeL kl) ++ (bytL kl ++ (headB kData 0 (8 + d.length) ++ d))) := by
    rw [← hb]; exact lies_all b
  obtain ⟨g1, g2⟩ := lies_app.1 hL
  obtain ⟨g3, g4⟩ := lies_app.1 g2
  obtain ⟨g5, g6⟩ := lies_app.1 g4
  rw [l1, Nat.zero_add] at g3 g5 g6
  rw [hkl] at g5 g6
  rw [l2] at g6
  have c1 := lies_cut g1 l1
  have c3 := lies_cut g3 hkl
  have c5 := lies_cut g5 l2
  have hd1 : headP b 0 b.length = some (kFilm, 0, 0 + (8 + if (0 : Int) = 1 then 8 else 0), 0 + (8 + sizeL kl)) := headP_of (by decide) (.inl rfl) (by omega) (Nat.le_refl _) (by omega) (by rw [if_neg (by omega)]; omega) (fun hc => by omega) (by rw [if_neg (by omega)]; exact c1)
  rw [if_neg (by omega), Nat.add_zero, Nat.zero_add] at hd1
  have hd2 : headP b (8 + sizeL kl) b.length = some (kData, 0, 8 + sizeL kl + (8 + if (0 : Int) = 1 then 8 else 0), 8 + sizeL kl + (8 + d.length)) := headP_of (by decide) (.inl rfl) (by omega) (Nat.le_refl _) (by omega) (by rw [if_neg (by omega)]; omega) (fun hc => by omega) (by rw [if_neg (by omega)]; exact c5)
  rw [if_neg (by omega), Nat.add_zero, show 8 + sizeL kl + (8 + d.length) = b.length by omega] at hd2
  obtain ⟨ks, hk1, hk2⟩ := byt_parse (b := b) (by omega) kl 8 (8 + sizeL kl) 1 1 m hf (by omega) (by omega) c3
  refine ⟨ks, ?_, hk2, g6, hbl.symm⟩
  unfold parseF
  rw [if_neg (by omega), parF_kids (by omega) (by omega) hd1 (by decide), hk1]
  show (parF b (8 + sizeL kl) b.length 0 m).pre _ = _
  rw [parF_leaf (by omega) (by omega) hd2 (by decide), parF_end (Nat.le_refl _)]
  rfl
theorem top_back {b : List UInt8} {n x : NodeT} {g : Int × List TrR} (h1 : n.kind = kFilm) (h2 : x.kind = kData) (h3 : filR b n = .ok g) : topR b [n, x] = .ok g := by
  have hne : ¬ x.kind = kFilm := by rw [h2]; decide
  have t1 : topK b [n, x] 1 = .ok (some g) := by
    rw [topK]
    show (match ([n, x] : List NodeT)[0]? with | none => Rdr.ok none | some y => _) = _
    simp only [List.getElem?_cons_zero, h1, if_true, h3]
    rfl
  have t2 : topK b [n, x] 2 = .ok (some g) := by
    rw [topK, t1]
    show (match ([n, x] : List NodeT)[1]? with | none => Rdr.ok (some g) | some y => _) = _
    simp only [List.getElem?_cons_succ, List.getElem?_cons_zero, if_neg hne]
    rfl
  unfold topR
  show (topK b [n, x] 2).then _ = _
  rw [t2]
  rfl
end Go.Proofs.Ytlonhkjplijlcaa
