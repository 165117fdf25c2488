/- Walk: readTable (reference). Conditions as stated. -/
import Derived.Test.YtlonhkjplijlcaaMrg22
import Derived.Test.YtlonhkjplijlcaaMrg40
import Derived.Test.YtlonhkjplijlcaaMrg42
namespace Go.Proofs.Ytlonhkjplijlcaa
open Go.RowKit
/-- What is known of the call's own blocks. -/
structure RtK (w W : World) (A : Option Addr) (n c : Nat) (s : Rd) : Prop where
  ext : Ext w W
  res : Blk W w.heap.size 73 #[.int .i64 0, .slice none 0 0, .slice none 0 0, .slice none 0 0, .slice none 0 0, .slice none 0 0, .slice none 0 0]
  rdr : RdrB W (w.heap.size + 1) A n c s
theorem RtK.call {w W W' : World} {A : Option Addr} {n c : Nat} {s s' : Rd} (h : RtK w W A n c s) (hb : RdrB W' (w.heap.size + 1) A n c s') (ht : Tw W W' (w.heap.size + 1) none) : RtK w W' A n c s' :=
  ⟨tw_ext' h.ext ht (by omega), ht.blk h.res (by omega) (by simp), hb⟩
theorem RtK.tw {w W W' : World} {A : Option Addr} {n c o : Nat} {s : Rd} (h : RtK w W A n c s) (ht : Tw W W' o none) (ho : w.heap.size + 2 ≤ o) : RtK w W' A n c s :=
  ⟨tw_ext' h.ext ht (by omega), ht.blk h.res (by omega) (by simp), h.rdr.tw ht (by omega) (by simp)⟩
theorem RtK.more {w W W' : World} {A : Option Addr} {n c : Nat} {s : Rd} (h : RtK w W A n c s) (he : Ext W W') : RtK w W' A n c s := ⟨Ext.trans h.ext he, h.res.ext he, h.rdr.ext he⟩
theorem LA.ext {α : Type} {W W' : World} {base sz : Nat} {enc : α → List Value} {T : Option Addr} {k tc : Nat} {l : List α} (h : LA W base sz enc T k tc l) (he : Ext W W') : LA W' base sz enc T k tc l := ⟨h.at_.ext he, h.lo⟩
/-- What the reference's readTable gives. -/
def RbGives (w : World) (b : List UInt8) (e : Ending) (w' : World) : Prop := ∃ v, e = .returned (.tuple #[v, .int .i64 (badI (rtE b))]) ∧ TbB w' w.heap.size v (rtT b) ∧ Ext w w'
set_option linter.unusedVariables false in
set_option linter.unusedSimpArgs false in
set_option maxRecDepth 100000 in
set_option maxHeartbeats 16000000 in
theorem refReadTab_any {A : Option Addr} {n c : Nat} {b : List UInt8} {w : World} (h : At w 1 e8 A n c b) (hn : n ≤ 1000000) :
    Calls Try.prog 90 #[.slice A n c] w (RbGives w b) := by
  have hl := h.len
  have hbd := h.bound
  have HNE : Hid (0 < n → ∀ a, A = some a → a.block ≠ w.heap.size + 1) := hide (fun hn a ha => by have := h.blk_lt len_e8 (by omega) hn a ha; omega)
  have H := hide h
  have HL := hide hl
  clear h
  have HN1 : Hid (n ≤ 1000000) := hide (by omega)
  have hp := r_pos b
  rw [hl] at hp
  have HP := hide hp
  have HFEW := hide (r_few b)
  have HC0 := hide (fun (W : World) (hI : RtK w W A n c ⟨0, false⟩) => tkN 8 8 rfl hI.rdr (H.out.ext hI.ext) HNE.out (Nat.zero_le _) (by omega))
  have HL1 := hide (fun (W : World) (s : Rd) (hI : RtK w W A n c s) (hs : s.pos ≤ n) => rows_any hI.rdr (H.out.ext hI.ext) HNE.out hs (each := 1) (z := 1) rfl (by omega))
  have HL2 := hide (fun (W : World) (s : Rd) (hI : RtK w W A n c s) (hs : s.pos ≤ n) => rows_any hI.rdr (H.out.ext hI.ext) HNE.out hs (each := 2) (z := 2) rfl (by omega))
  have HFL := hide (fun (W : World) (s : Rd) (hI : RtK w W A n c s) (hs : s.pos ≤ n) => tkN 1 1 rfl hI.rdr (H.out.ext hI.ext) HNE.out hs (by omega))
  have HSG8 := hide (sgnR8 (b := b) (s := ⟨0, false⟩))
  have HST : Hid (IntKind.i64.wrap ((r0F b).1 : Int) = (rtT b).start) := hide rfl
  obtain ⟨i0_, hi0, hz0, hz1, hz2⟩ := info_parts Try.info3
  obtain ⟨j0_, hj0, hy0, hy1, hy2⟩ := info_parts Try.info134
  clear hp hl
  go_enter Try.func90, Try.ntmps90
  go_upto_region 2 with (fail)
  refine gen_wpC fun w1 h1 => ?_
  have I1 : Hid (RtK w w1 A n c ⟨0, false⟩) := hide (by
    rw [h1]
    refine ⟨Ext.trans (Ext.alloc _ _) (Ext.alloc _ _), (Blk.new _ _ _).alloc _, (0 : Int), ?_, fun _ => rfl⟩
    have := Blk.new (w.alloc (.cells #[.int .i64 0, .slice none 0 0, .slice none 0 0, .slice none 0 0, .slice none 0 0, .slice none 0 0, .slice none 0 0] 73)) 164 #[.slice A n c, .int .i64 0, .int .i64 (-1)]
    rw [World.size_alloc] at this
    exact this)
  clear h1
  go_wp2_with fail
  with_reducible refine (HC0.out _ I1.out).mono ?_
  rintro e w2 ⟨⟨T2, tc2, rfl, a2⟩, b2, t2⟩
  have I2 : Hid (RtK w w2 A n c (r0F b).2) := hide (I1.out.call b2 t2)
  have HN2 := hide (signed_any a2 (by omega))
  clear a2 b2 t2 I1 HC0
  go_wp2_with fail
  with_reducible refine HN2.out.mono ?_
  rintro e w' ⟨rfl, rfl⟩
  rw [HSG8.out, show IntKind.i64.wrap ((rdN b 8 ⟨0, false⟩).1 : Int) = (rtT b).start from HST.out]
  clear HN2
  go_upto_region 3 with (fail)
  refine gen_wpC fun w3 h3 => ?_
  obtain ⟨gf, hgf⟩ : ∃ gf, gf = w2.heap.size := ⟨_, rfl⟩
  rw [← hgf]
  have F3 : Hid (Blk w3 gf 73 #[.int .i64 (rtT b).start, .slice none 0 0, .slice none 0 0, .slice none 0 0, .slice none 0 0, .slice none 0 0, .slice none 0 0]) := hide (by rw [h3, hgf]; exact Blk.new _ _ _)
  have I3 : Hid (RtK w w3 A n c (r0F b).2) := hide (by rw [h3]; exact I2.out.more (Ext.alloc _ _))
  have hgw : w.heap.size + 2 ≤ gf := by rw [hgf]; exact I2.out.rdr.lt
  clear h3 hgf I2
  go_wp2_with fail
  with_reducible refine (HL2.out _ _ I3.out HP.out.1).mono ?_
  rintro e w4 ⟨TT, NN, tcc, rfl, a4, b4, t4, l4⟩
  have I4 : Hid (RtK w w4 A n c (r1F b).2) := hide (I3.out.call b4 t4)
  have F4 := hide (t4.blk F3.out (by omega) (by simp))
  have HRO : Hid (Calls Try.prog 104 #[.slice TT NN tcc] w4 fun e w' => ∃ T' k tc', e = .returned (.slice T' k tc') ∧ At w' 2 e2 T' k tc' (prL (r1F b).1) ∧ Ext w4 w' ∧ ∀ a, T' = some a → w4.heap.size ≤ a.block) := hide (by
    have h1 := HFEW.out.1
    have h2 := HL.out
    have h3 := HN1.out
    have h4 : ((r1F b).1).length = NN := a4.len
    exact runsOf_any a4 (by omega))
  clear a4 b4 t4 l4 I3 F3
  go_wp2_with fail
  with_reducible refine HRO.out.mono ?_
  rintro e w5 ⟨S, sn, sc, rfl, a5, e5, l5⟩
  have I5 := hide (I4.out.more e5)
  have F5 := hide (F4.out.ext e5)
  have L1_5 : Hid (LA w5 (gf + 1) 2 e2 S sn sc (prL (r1F b).1)) := hide ⟨a5, fun a ha => by have := l5 a ha; have := F4.out.lt; omega⟩
  have gc : w5.cell? ⟨gf, 1, none⟩ = some (.slice none 0 0) := F5.out.cell 1
  have gz := F5.out.frozen 1
  clear a5 e5 l5 I4 F4 HRO 
  go_upto_region 4 with (fail)
  refine gen_wpC fun w6 h6 => ?_
  have S6 : Hid (Tw w5 w6 gf none) := hide (by rw [h6]; exact Tw.set_ _ _ _ _ _)
  have I6 := hide (I5.out.tw S6.out hgw)
  have F6 : Hid (Blk w6 gf 73 #[.int .i64 (rtT b).start, .slice S sn sc, .slice none 0 0, .slice none 0 0, .slice none 0 0, .slice none 0 0, .slice none 0 0]) := hide (by rw [h6]; exact F5.out.set_ 1 _)
  have L1_6 := hide (L1_5.out.tw S6.out (by omega))
  clear h6 S6 I5 F5 gc gz L1_5
  go_wp2_with fail
  with_reducible refine (HL2.out _ _ I6.out HP.out.2.1).mono ?_
  rintro e w7 ⟨TT, NN, tcc, rfl, a7, b7, t7, l7⟩
  have I7 : Hid (RtK w w7 A n c (r2F b).2) := hide (I6.out.call b7 t7)
  have F7 := hide (t7.blk F6.out (by omega) (by simp))
  have HRO : Hid (Calls Try.prog 104 #[.slice TT NN tcc] w7 fun e w' => ∃ T' k tc', e = .returned (.slice T' k tc') ∧ At w' 2 e2 T' k tc' (prL (r2F b).1) ∧ Ext w7 w' ∧ ∀ a, T' = some a → w7.heap.size ≤ a.block) := hide (by
    have h1 := HFEW.out.2.1
    have h2 := HL.out
    have h3 := HN1.out
    have h4 : ((r2F b).1).length = NN := a7.len
    exact runsOf_any a7 (by omega))
  have L1_7 := hide (L1_6.out.tw t7 (by omega))
  clear a7 b7 t7 l7 I6 F6
  go_wp2_with fail
  with_reducible refine HRO.out.mono ?_
  rintro e w8 ⟨H_, h_n, h_c, rfl, a8, e8, l8⟩
  have I8 := hide (I7.out.more e8)
  have F8 := hide (F7.out.ext e8)
  have L2_8 : Hid (LA w8 (gf + 1) 2 e2 H_ h_n h_c (prL (r2F b).1)) := hide ⟨a8, fun a ha => by have := l8 a ha; have := F7.out.lt; omega⟩
  have L1_8 := hide (L1_7.out.ext e8)
  have gc : w8.cell? ⟨gf, 2, none⟩ = some (.slice none 0 0) := F8.out.cell 2
  have gz := F8.out.frozen 2
  clear a8 e8 l8 I7 F7 HRO L1_7
  go_upto_region 5 with (fail)
  refine gen_wpC fun w9 h9 => ?_
  have S9 : Hid (Tw w8 w9 gf none) := hide (by rw [h9]; exact Tw.set_ _ _ _ _ _)
  have I9 := hide (I8.out.tw S9.out hgw)
  have F9 : Hid (Blk w9 gf 73 #[.int .i64 (rtT b).start, .slice S sn sc, .slice H_ h_n h_c, .slice none 0 0, .slice none 0 0, .slice none 0 0, .slice none 0 0]) := hide (by rw [h9]; exact F8.out.set_ 2 _)
  have L1_9 := hide (L1_8.out.tw S9.out (by omega))
  have L2_9 := hide (L2_8.out.tw S9.out (by omega))
  clear h9 S9 I8 F8 gc gz L1_8 L2_8
  go_wp2_with fail
  with_reducible refine (HL1.out _ _ I9.out HP.out.2.2.1).mono ?_
  rintro e w10 ⟨Z, zn, zc, rfl, a10, b10, t10, l10⟩
  have I10 : Hid (RtK w w10 A n c (r3F b).2) := hide (I9.out.call b10 t10)
  have F10 := hide (t10.blk F9.out (by omega) (by simp))
  have L3_10 : Hid (LA w10 (gf + 1) 1 e64 Z zn zc (r3F b).1) := hide ⟨a10, fun a ha => by have := l10 a ha; have := F9.out.lt; omega⟩
  have L1_10 := hide (L1_9.out.tw t10 (by omega))
  have L2_10 := hide (L2_9.out.tw t10 (by omega))
  have gc : w10.cell? ⟨gf, 3, none⟩ = some (.slice none 0 0) := F10.out.cell 3
  have gz := F10.out.frozen 3
  clear a10 b10 t10 l10 I9 F9
  go_upto_region 6 with (fail)
  refine gen_wpC fun w11 h11 => ?_
  have S11 : Hid (Tw w10 w11 gf none) := hide (by rw [h11]; exact Tw.set_ _ _ _ _ _)
  have I11 := hide (I10.out.tw S11.out hgw)
  have F11 : Hid (Blk w11 gf 73 #[.int .i64 (rtT b).start, .slice S sn sc, .slice H_ h_n h_c, .slice Z zn zc, .slice none 0 0, .slice none 0 0, .slice none 0 0]) := hide (by rw [h11]; exact F10.out.set_ 3 _)
  have L1_11 := hide (L1_10.out.tw S11.out (by omega))
  have L2_11 := hide (L2_10.out.tw S11.out (by omega))
  have L3_11 := hide (L3_10.out.tw S11.out (by omega))
  clear h11 S11 I10 F10 gc gz L1_10 L2_10 L3_10
  obtain ⟨pr, hbr, hpr⟩ := I11.out.rdr
  have x1 : w11.cell? ⟨w.heap.size + 1, 1, none⟩ = some (.int .i64 pr) := hbr.cell 1
  have HPR := hide hpr
  have HXB := hide (byte1 b (r3F b).2)
  have hkl : (rdN b 1 (r3F b).2).1 < 256 := by have := rdN_lt (b := b) (k := 1) (r3F b).2 (by omega); simpa using this
  have HKB : Hid (hasK b = decide ((rdN b 1 (r3F b).2).1 = 1)) := hide (by
    have e1 : (r4F b) = rdF b 1 (r3F b).2 := rfl
    unfold hasK
    rw [e1]
    unfold rdF
    by_cases h2 : (rdN b 1 (r3F b).2).2.bad = false ∧ 1 < (rdN b 1 (r3F b).2).1
    · rw [if_pos h2]
      have h3 : ¬ (rdN b 1 (r3F b).2).1 = 1 := by omega
      simp [h3]
    · rw [if_neg h2]
      by_cases h4 : (rdN b 1 (r3F b).2).2.bad = true
      · have h5 : (rdN b 1 (r3F b).2).1 = 0 := by
          rcases Classical.em ((r3F b).2.bad = true ∨ b.length - (r3F b).2.pos < 1) with h6 | h6
          · rw [rdN_bad h6]
          · have h7 : (r3F b).2.bad = false := by cases hh : (r3F b).2.bad with | false => rfl | true => exact absurd (.inl hh) h6
            rw [rdN_ok h7 (Nat.le_of_not_lt fun hc => h6 (.inr hc))] at h4; cases h4
        rw [h5]; simp
      · have h4 : (rdN b 1 (r3F b).2).2.bad = false := by simpa using h4
        rw [h4]; simp)
  have HR4 : Hid ((r4F b).2 = if (rdN b 1 (r3F b).2).2.bad = false ∧ 1 < (rdN b 1 (r3F b).2).1 then ⟨(r3F b).2.pos, true⟩ else (rdN b 1 (r3F b).2).2) := hide (by show (rdF b 1 (r3F b).2).2 = _; unfold rdF; split <;> rfl)
  have HWAS : Hid ((rdN b 1 (r3F b).2).2.bad = false → (r3F b).2.bad = false) := hide (fun h => rdN_was h)
  clear hbr hpr
  go_wp2_with fail
  with_reducible refine (HFL.out _ _ I11.out HP.out.2.2.2.1).mono ?_
  rintro e wf ⟨⟨Tf, tcf, rfl, af⟩, bf, tf⟩
  have If : Hid (RtK w wf A n c (rdN b 1 (r3F b).2).2) := hide (I11.out.call bf tf)
  have Ff := hide (tf.blk F11.out (by omega) (by simp))
  have L1_f := hide (L1_11.out.tw tf (by omega))
  have L2_f := hide (L2_11.out.tw tf (by omega))
  have L3_f := hide (L3_11.out.tw tf (by omega))
  obtain ⟨xk, hxk, hxkn⟩ := HXB.out
  rw [hxk] at af
  obtain ⟨Tfb, Tfo, rfl, _⟩ := af.addr (by omega)
  have xf : wf.cell? ⟨Tfb, Tfo, none⟩ = some (.int .u8 ((rdN b 1 (r3F b).2).1 : Int)) := by
    have := af.byte (k := 0) (by simp)
    rw [← hxkn]
    simpa using this
  obtain ⟨pf, hbf, _⟩ := If.out.rdr
  have c5 : wf.cell? ⟨w.heap.size + 1, 2, none⟩ = some (.int .i64 (badI (rdN b 1 (r3F b).2).2)) := hbf.cell 2
  have z5 : wf.frozen? ⟨w.heap.size + 1, 2, none⟩ = false := hbf.frozen 2
  have HBf := hide hbf
  have HBN5 := hide (badI_neg (rdN b 1 (r3F b).2).2)
  clear af bf tf hxk hxkn hbf HXB x1 I11 F11 L1_11 L2_11 L3_11
  with_reducible generalize hkv : (rdN b 1 (r3F b).2).1 = kv at *
  clear hkv
  go_upto_region 8 with (fail)
  go_cut [44] (fun sc wx => ∃ go : Bool, sc = .bool go ∧ wf = wx ∧ Hid (go = decide ((rdN b 1 (r3F b).2).2.bad = false ∧ 1 < kv)))
  case first =>
    obtain ⟨bi, hbi⟩ : ∃ bi, bi = badI (rdN b 1 (r3F b).2).2 := ⟨_, rfl⟩
    rw [← hbi] at c5 HBN5
    clear hbi
    by_cases hneg : bi < 0
    · have i0 : decide (bi < 0) = true := by simp; omega
      have HG5 : Hid (decide ((1 : Int) < (kv : Int)) = decide ((rdN b 1 (r3F b).2).2.bad = false ∧ 1 < kv)) := hide (by rw [Bool.eq_iff_iff, decide_eq_true_iff, decide_eq_true_iff]; exact ⟨fun h => ⟨HBN5.out.1 hneg, by omega⟩, fun h => by have := h.2; omega⟩)
      go_wp2_with fail
      go_meet
      exact ⟨_, by first | rfl | simp, rfl, by first | exact HG5 | exact hide (by have := HG5.out; simpa using this)⟩
    · have i0 : decide (bi < 0) = false := by simp; omega
      have HG5 : Hid (false = decide ((rdN b 1 (r3F b).2).2.bad = false ∧ 1 < kv)) := hide (by symm; rw [decide_eq_false_iff_not]; exact fun h => hneg (HBN5.out.2 h.1))
      go_wp2_with fail
      go_meet
      exact ⟨false, rfl, rfl, HG5⟩
  case rest =>
  obtain ⟨go5, rfl, hw5, HG5⟩ := hcut
  subst hw5
  go_upto_if 44 with (fail)
  go_cut [] (fun wx => Hid (RtK w wx A n c (r4F b).2) ∧ Hid (Blk wx gf 73 #[.int .i64 (rtT b).start, .slice S sn sc, .slice H_ h_n h_c, .slice Z zn zc, .slice none 0 0, .slice none 0 0, .slice none 0 0]) ∧ Hid (LA wx (gf + 1) 2 e2 S sn sc (prL (r1F b).1)) ∧ Hid (LA wx (gf + 1) 2 e2 H_ h_n h_c (prL (r2F b).1)) ∧ Hid (LA wx (gf + 1) 1 e64 Z zn zc (r3F b).1))
  case first =>
    cases go5 with
    | true =>
      have hg5 := of_decide_eq_true HG5.out.symm
      have HE5 : Hid ((r4F b).2 = ⟨(r3F b).2.pos, true⟩) := hide (by rw [HR4.out, if_pos hg5])
      have hpe := HPR.out (HWAS.out hg5.1)
      subst hpe
      clear hg5 HG5
      go_wp2_with fail
      go_meet
      have ht9 : Tw wf (wf.setCell ⟨w.heap.size + 1, 2, none⟩ (.int .i64 ((r3F b).2.pos : Int))) (w.heap.size + 1) none := Tw.set_ _ _ _ _ _
      exact ⟨hide (by rw [HE5.out]; exact If.out.call ⟨pf, HBf.out.set_ 2 _, fun h => by cases h⟩ ht9), hide (ht9.blk Ff.out (by omega) (by simp)), hide (L1_f.out.tw ht9 (by omega)), hide (L2_f.out.tw ht9 (by omega)), hide (L3_f.out.tw ht9 (by omega))⟩
    | false =>
      have hg5 := of_decide_eq_false HG5.out.symm
      have HE5 : Hid ((r4F b).2 = (rdN b 1 (r3F b).2).2) := hide (by rw [HR4.out, if_neg hg5])
      clear hg5 HG5
      go_wp2_with fail
      go_meet
      exact ⟨hide (by rw [HE5.out]; exact If.out), Ff, L1_f, L2_f, L3_f⟩
  case rest =>
  obtain ⟨Ik, Fk, L1_k, L2_k, L3_k⟩ := hcut
  obtain ⟨wk, hwk⟩ : ∃ wk, wk = wc := ⟨_, rfl⟩
  subst hwk
  clear If Ff L1_f L2_f L3_f c5 z5 xf HBf HG5 HBN5
  have HKV : Hid (((kv : Int) == 1) = hasK b) := hide (by rw [HKB.out, Bool.eq_iff_iff]; simp; omega)
  have kve := HKV.out
  go_upto_if 50 with (fail)
  go_cut [] (fun wx => ∃ kA kn kc, Hid (RtK w wx A n c (r5F b).2) ∧ Hid (Blk wx gf 73 #[.int .i64 (rtT b).start, .slice S sn sc, .slice H_ h_n h_c, .slice Z zn zc, .slice kA kn kc, .slice none 0 0, .slice none 0 0]) ∧ Hid (LA wx (gf + 1) 2 e2 S sn sc (prL (r1F b).1)) ∧ Hid (LA wx (gf + 1) 2 e2 H_ h_n h_c (prL (r2F b).1)) ∧ Hid (LA wx (gf + 1) 1 e64 Z zn zc (r3F b).1) ∧ Hid (LA wx (gf + 1) 1 e64 kA kn kc (r5F b).1) ∧ Hid (kA = none ↔ hasK b = false))
  case first =>
    have hgl : gf < wk.heap.size := Fk.out.lt
    cases hk : hasK b with
    | false =>
      rw [hk] at kve
      have HR5 : Hid (r5F b = ([], (r4F b).2)) := hide (by unfold r5F; rw [hk, if_neg (by simp)])
      have HKF := hide hk
      go_wp2_with fail
      go_meet
      exact ⟨none, 0, 0, hide (by rw [HR5.out]; exact Ik.out), Fk, L1_k, L2_k, L3_k, hide (by rw [HR5.out]; exact LA.nil _ _ _ _), hide (by simp [HKF.out])⟩
    | true =>
      rw [hk] at kve
      have HR5 : Hid (r5F b = lsF b 1 (r4F b).2) := hide (by unfold r5F; rw [hk, if_pos rfl])
      have hk9 := hide hk
      have IA := hide (Ik.out.more (Ext.alloc wk (.cells #[] 3)))
      have FA := hide (Fk.out.alloc (.cells #[] 3))
      have O0 : Hid (Own (wk.alloc (.cells #[] 3)) wk.heap.size 3 1 e64 (.slice (some ⟨wk.heap.size, 0, none⟩) 0 0) []) := hide ⟨by simp, .inr ⟨wk.heap.size, 0, #[], rfl, Nat.le_refl _, heap_alloc_new wk _, Nat.le_refl _, by unfold maxLen; omega, rfl, rfl⟩⟩
      clear hk
      go_wp2_with fail
      with_reducible refine (HL1.out _ _ IA.out HP.out.2.2.2.2.1).mono ?_
      rintro e wb ⟨T, k, tc, rfl, ab, bb, tb, lb⟩
      have IB := hide (IA.out.call bb tb)
      have FB := hide (tb.blk FA.out (by omega) (by simp))
      have OB := hide (O0.out.tw tb (fun e => by have e2 : wk.heap.size = _ := Option.some.inj e; omega) (fun g _ e => by cases e))
      have hlk := ab.len
      have hfw := HFEW.out.2.2.2.1
      rw [HR5.out] at hfw
      have hn1 := HN1.out
      have hll := HL.out
      have AB := hide ab
      have S1 : Hid (([] : List Int).length + k ≤ maxLen) := hide (by simp; unfold maxLen; omega)
      have S2 : Hid ((([] : List Int).length + k) * 8 ≤ 140737488355328) := hide (by simp; omega)
      have S3 : Hid (wk.heap.size ≤ wb.heap.size) := hide (by have := tb.size; rw [World.size_alloc] at this; omega)
      have TBk : Hid (Tw wk wb (w.heap.size + 1) none) := hide ((Tw.of_ext (Ext.alloc _ _) _ _).trans tb)
      have HGF : Hid (∀ W' : World, wb.grownBy W' (Value.slice (some ⟨wk.heap.size, 0, none⟩) 0 0).ownBlock → Blk W' gf 73 #[.int .i64 (rtT b).start, .slice S sn sc, .slice H_ h_n h_c, .slice Z zn zc, .slice none 0 0, .slice none 0 0, .slice none 0 0]) := hide (fun W' hg => FB.out.grown hg (fun e => by have e2 : gf = wk.heap.size := Option.some.inj e; omega))
      clear ab bb tb lb hlk hfw
      go_wp2_with (at_builtin; (refine wpList_append_at _ rfl (.tmp 51) (.tmp 53) 70 rfl wk.heap.size 3 i0_ _ 8 Try.underlying70 hi0 hz0 hz1 hz2 rfl (by omega) len_e64 one_e64 _ _ (by rfl) OB.out T k tc _ (by rfl) AB.out S1.out S2.out S3.out ?_); intro v7 w7 o7 g7 n7 _; have O7 := hide o7; have G7 := hide g7; have N7 := hide n7; clear o7 g7 n7; obtain ⟨A7, c7, hv7, h7⟩ := O7.out.at_ len_e64; subst hv7; have H7 := hide h7; clear h7; have F7 := HGF.out _ G7.out; have gz7 := F7.frozen 4; have gc7 : w7.cell? ⟨gf, 4, none⟩ = some (.slice none 0 0) := F7.cell 4; have F7h := hide F7; clear F7)
      go_meet
      have hwb : wk.heap.size ≤ wb.heap.size := S3.out
      have hnz : A7 ≠ none := fun e => by
        subst e
        have h9 := H7.out.none_ rfl
        have h8 := H7.out.le
        have h7 := N7.out.1 (by rw [h9, show (([] : List Int) ++ (lsF b 1 (r4F b).2).1).length = 0 by omega])
        have h6 := h7.1
        injection h6 with h5
        cases h5
      have hlo := O7.out.lt
      have TK : Hid (Tw wk (w7.setCell ⟨gf, 4, none⟩ (.slice A7 ([] ++ (lsF b 1 (r4F b).2).1).length c7)) gf (some (w.heap.size + 1))) := hide ⟨G7.out.os.trans TBk.out.os, G7.out.tape.trans TBk.out.tape, G7.out.output.trans TBk.out.output, by
          have h1 := TBk.out.size
          have h2 := G7.out.size
          simp [World.setCell]; omega, fun q hq1 hq2 hq3 => (Below.heap_setCell w7 ⟨gf, 4, none⟩ _ q (by show q ≠ gf; exact hq2)).trans ((G7.out.block q (by omega) (fun e => by have e2 : q = wk.heap.size := Option.some.inj e; omega)).trans (TBk.out.block q hq1 (fun e => hq3 (by rw [e])) (by simp)))⟩
      refine ⟨A7, _, c7, hide ⟨tw_ext2 Ik.out.ext TK.out (by omega) (by omega), TK.out.blk Ik.out.res (by omega) (fun e => by have := Option.some.inj e; omega), ?_⟩, hide (F7h.out.set_ 4 _), hide (L1_k.out.tw2 TK.out (by omega) (by omega)), hide (L2_k.out.tw2 TK.out (by omega) (by omega)), hide (L3_k.out.tw2 TK.out (by omega) (by omega)), hide ⟨?_, fun a ha => by subst ha; have := (hlo a.block rfl).1; omega⟩, hide ⟨fun e => absurd e hnz, fun e => by rw [hk9.out] at e; cases e⟩⟩
      · rw [HR5.out]
        exact (IB.out.rdr.grown G7.out (fun e => by have e2 : w.heap.size + 1 = wk.heap.size := Option.some.inj e; omega)).tw (Tw.set_ _ _ _ _ none) (show w.heap.size + 1 ≠ gf by omega) (by simp)
      · rw [HR5.out]
        have h9 := H7.out.tw (Tw.set_ w7 gf 4 (.slice A7 ([] ++ (lsF b 1 (r4F b).2).1).length c7) none) (fun a ha => ⟨by subst ha; have := (hlo a.block rfl).1; omega, by simp⟩)
        rw [List.nil_append] at h9
        exact h9
  case rest =>
  obtain ⟨kA, kn, kc, IR, FR, L1_r, L2_r, L3_r, L4_r, HKN⟩ := hcut
  obtain ⟨wm, hwm⟩ : ∃ wm, wm = wc := ⟨_, rfl⟩
  subst hwm
  clear Ik Fk L1_k L2_k L3_k
  go_wp2_with fail
  with_reducible refine (HL2.out _ _ IR.out HP.out.2.2.2.2.2.1).mono ?_
  rintro e wn ⟨T, N, tc, rfl, an, bn, tn, ln⟩
  have IN : Hid (RtK w wn A n c (r6F b).2) := hide (IR.out.call bn tn)
  have FN := hide (tn.blk FR.out (by omega) (by simp))
  have L5 : Hid (LA wn (gf + 1) 1 e64 T N tc (r6F b).1) := hide ⟨an, fun a ha => by have := ln a ha; have := FR.out.lt; omega⟩
  have L1_n := hide (L1_r.out.tw tn (by omega))
  have L2_n := hide (L2_r.out.tw tn (by omega))
  have L3_n := hide (L3_r.out.tw tn (by omega))
  have L4_n := hide (L4_r.out.tw tn (by omega))
  have HNL : Hid ((r6F b).1.length = N) := hide an.len
  have hfew := HFEW.out.2.2.2.2.1
  have hnl := an.len
  have hn1 := HN1.out
  have hll := HL.out
  have hfew2 : N * 8 ≤ n := by have h1 : (r6F b).1.length = N := hnl; omega
  clear hfew
  have hgn : gf < wn.heap.size := FN.out.lt
  clear an bn tn ln IR FR L1_r L2_r L3_r L4_r hnl hll
  obtain ⟨l, hl⟩ : ∃ l, l = (r6F b).1 := ⟨_, rfl⟩
  rw [← hl] at L5 HNL
  have HLL := hide hl
  clear hl
  go_wp2_with fail
  go_loopw [9] (fun ri wr => ∃ (k i : Nat) (v : Value), i = 2 * k ∧ k ≤ N / 2 ∧ ri = .int .i64 i ∧ Hid (Own wr wn.heap.size 134 2 e2 v (prK l k)) ∧ Hid (Blk wr gf 73 #[.int .i64 (rtT b).start, .slice S sn sc, .slice H_ h_n h_c, .slice Z zn zc, .slice kA kn kc, v, .slice none 0 0]) ∧ Hid (Tw wn wr gf none)) (fun ri _ => N + 2 - (intOf ri).toNat)
  case atStart => exact ⟨0, 0, _, rfl, Nat.zero_le _, rfl, hide (Own.nil _ _ _ _ _), FN, hide (Tw.refl _ _ _)⟩
  case round =>
    obtain ⟨k, i, v, hik, hk, rfl, HO, HF, HT⟩ := hrel
    have i8 : IntKind.i64.wrap ((i : Int) + 1) = (i : Int) + 1 := by rw [IntKind.wrap_i64]; omega
    have i9 : IntKind.i64.wrap ((i : Int) + 2) = (i : Int) + 2 := by rw [IntKind.wrap_i64]; omega
    obtain ⟨vA, vc, hv, hat⟩ := HO.out.at_ len_e2
    have HAT := hide hat
    have HLT := HO.out.lt
    subst hv
    clear hat
    by_cases hlt : i + 1 < N
    · obtain ⟨bT, oT, rfl, _⟩ := L5.out.at_.addr (by omega)
      have hat := (L5.out.tw HT.out (by omega)).at_
      have hbT := L5.out.lo _ rfl
      have hbL := L5.out.at_.blk_lt len_e64 (by omega) (by omega) _ rfl
      have a0 := hat.num (k := i) (by omega)
      have a1 := hat.num (k := i + 1) (by omega)
      have HSU : Hid (prK l (k + 1) = prK l k ++ [(l.getD i 0, l.getD (i + 1) 0)]) := hide (by rw [prK_succ, hik])
      generalize l.getD i 0 = x at *
      generalize l.getD (i + 1) 0 = y at *
      have x5 : wr.cell? ⟨gf, 5, none⟩ = some (.slice vA (prK l k).length vc) := HF.out.cell 5
      have z5 := HF.out.frozen 5
      have i1 : (i : Int) + 1 < (N : Int) := by omega
      have i2 : (i : Int) < (N : Int) := by omega
      have i0 : (0 : Int) ≤ (i : Int) := by omega
      have i3 : ((i : Int) + 1).toNat = i + 1 := by omega
      have i4 : (0 : Int) ≤ (i : Int) + 1 := by omega
      have hlk : (prK l k).length = k := prK_len _ _
      have S1 : Hid ((prK l k).length + 1 ≤ maxLen) := hide (by rw [hlk]; unfold maxLen; omega)
      have S2 : Hid (((prK l k).length + 1) * 16 ≤ 140737488355328) := hide (by rw [hlk]; omega)
      have S3 : Hid (wn.heap.size ≤ (wr.drew.alloc (.cells #[.int .i64 x, .int .i64 y] 134)).heap.size) := hide (by have := HT.out.size; rw [World.size_alloc]; show wn.heap.size ≤ wr.heap.size + 1; omega)
      have HK := hide (And.intro hik (half_lt hik hlt))
      clear hat hlk hik
      go_upto_region 16 with (fail)
      have hS : SChk gf bT (oT + i) (oT + (i + 1)) (.slice vA (prK l k).length vc) x y wr := ⟨x5, a0, a1⟩
      have hS0 := hS.ext (Ext.drew wr)
      have HS6 := hide hS
      have HFb := hide (fun (W' : World) (hg : ((wr.alloc (.cells #[.int .i64 x, .int .i64 y] 134)).drew).grownBy W' (Value.slice vA (prK l k).length vc).ownBlock) => ((HF.out.alloc (.cells #[.int .i64 x, .int .i64 y] 134)).drew).grown hg (fun e => by have := (HLT _ e.symm).1; omega))
      have HLNE : Hid (∀ m, m < wn.heap.size → some m ≠ (Value.slice vA (prK l k).length vc).ownBlock) := hide (fun m hm e => by have := (HLT _ e.symm).1; omega)
      clear hS
      refine region_z (S := SChk gf bT (oT + i) (oT + (i + 1)) (.slice vA (prK l k).length vc) x y) 14 (by kernel_rfl) ?_
      refine AnyZ.takeE (i := 0) (d := 65) (oi := _) (v := ?_) rfl rfl rfl (by kernel_rfl) (by kernel_rfl) (by kernel_rfl) (by kernel_rfl) (by kernel_rfl) (by kernel_rfl) (fun _ _ _ h => h) (Or.inl ⟨by rfl, ?_⟩) hS0 ?_
      rotate_left
      · intro W hW; obtain ⟨s1, s2, s3⟩ := hW; first | (go_simp; done) | (go_simp; with_reducible rfl)
      simp only [Act.put, List.setIfInBounds_toArray, List.set_cons_zero, List.set_cons_succ]
      refine AnyZ.takeE (i := 1) (d := 66) (oi := _) (v := ?_) rfl rfl rfl (by kernel_rfl) (by kernel_rfl) (by kernel_rfl) (by kernel_rfl) (by kernel_rfl) (by kernel_rfl) (fun _ _ _ h => h) (Or.inl ⟨by rfl, ?_⟩) hS0 ?_
      rotate_left
      · intro W hW; obtain ⟨s1, s2, s3⟩ := hW; first | (go_simp; done) | (go_simp; with_reducible rfl)
      simp only [Act.put, List.setIfInBounds_toArray, List.set_cons_zero, List.set_cons_succ]
      refine AnyZ.takeE (i := 2) (d := 67) (oi := _) (v := ?_) rfl rfl rfl (by kernel_rfl) (by kernel_rfl) (by kernel_rfl) (by kernel_rfl) (by kernel_rfl) (by kernel_rfl) (fun _ _ _ h => h) (Or.inl ⟨by rfl, ?_⟩) hS0 ?_
      rotate_left
      · intro W hW; obtain ⟨s1, s2, s3⟩ := hW; first | (go_simp; done) | (go_simp; with_reducible rfl)
      simp only [Act.put, List.setIfInBounds_toArray, List.set_cons_zero, List.set_cons_succ]
      refine AnyZ.takeE (i := 3) (d := 68) (oi := _) (v := ?_) rfl rfl rfl (by kernel_rfl) (by kernel_rfl) (by kernel_rfl) (by kernel_rfl) (by kernel_rfl) (by kernel_rfl) (fun _ _ _ h => h) (Or.inl ⟨by rfl, ?_⟩) hS0 ?_
      rotate_left
      · intro W hW; obtain ⟨s1, s2, s3⟩ := hW; first | (go_simp; done) | (go_simp; with_reducible rfl)
      simp only [Act.put, List.setIfInBounds_toArray, List.set_cons_zero, List.set_cons_succ]
      refine AnyZ.takeE (i := 4) (d := 69) (oi := _) (v := ?_) rfl rfl rfl (by kernel_rfl) (by kernel_rfl) (by kernel_rfl) (by kernel_rfl) (by kernel_rfl) (by kernel_rfl) (fun _ _ _ h => h) (Or.inl ⟨by rfl, ?_⟩) hS0 ?_
      rotate_left
      · intro W hW; obtain ⟨s1, s2, s3⟩ := hW; first | (go_simp; done) | (go_simp; with_reducible rfl)
      simp only [Act.put, List.setIfInBounds_toArray, List.set_cons_zero, List.set_cons_succ]
      refine AnyZ.takeE (i := 5) (d := 70) (oi := _) (v := ?_) rfl rfl rfl (by kernel_rfl) (by kernel_rfl) (by kernel_rfl) (by kernel_rfl) (by kernel_rfl) (by kernel_rfl) (fun _ _ _ h => h) (Or.inl ⟨by rfl, ?_⟩) hS0 ?_
      rotate_left
      · intro W hW; obtain ⟨s1, s2, s3⟩ := hW; first | (go_simp; done) | (go_simp; with_reducible rfl)
      simp only [Act.put, List.setIfInBounds_toArray, List.set_cons_zero, List.set_cons_succ]
      refine AnyZ.takeE (i := 6) (d := 71) (oi := _) (v := ?_) rfl rfl rfl (by kernel_rfl) (by kernel_rfl) (by kernel_rfl) (by kernel_rfl) (by kernel_rfl) (by kernel_rfl) (fun _ _ _ h => h) (Or.inl ⟨by rfl, ?_⟩) hS0 ?_
      rotate_left
      · intro W hW; obtain ⟨s1, s2, s3⟩ := hW; first | (go_simp; done) | (go_simp; with_reducible rfl)
      simp only [Act.put, List.setIfInBounds_toArray, List.set_cons_zero, List.set_cons_succ]
      refine AnyZ.takeE (i := 7) (d := 72) (oi := _) (v := ?_) rfl rfl rfl (by kernel_rfl) (by kernel_rfl) (by kernel_rfl) (by kernel_rfl) (by kernel_rfl) (by kernel_rfl) (fun _ _ _ h => h) (Or.inl ⟨by rfl, ?_⟩) hS0 ?_
      rotate_left
      · intro W hW; obtain ⟨s1, s2, s3⟩ := hW; first | (go_simp; done) | (go_simp; with_reducible rfl)
      simp only [Act.put, List.setIfInBounds_toArray, List.set_cons_zero, List.set_cons_succ]
      refine AnyZ.takeE (i := 8) (d := 73) (oi := _) (v := ?_) rfl rfl rfl (by kernel_rfl) (by kernel_rfl) (by kernel_rfl) (by kernel_rfl) (by kernel_rfl) (by kernel_rfl) (fun _ _ _ h => h) (Or.inl ⟨by rfl, ?_⟩) hS0 ?_
      rotate_left
      · intro W hW; obtain ⟨s1, s2, s3⟩ := hW; first | (go_simp; done) | (go_simp; with_reducible rfl)
      simp only [Act.put, List.setIfInBounds_toArray, List.set_cons_zero, List.set_cons_succ]
      refine AnyZ.takeE (i := 9) (d := 74) (oi := _) (v := ?_) rfl rfl rfl (by kernel_rfl) (by kernel_rfl) (by kernel_rfl) (by kernel_rfl) (by kernel_rfl) (by kernel_rfl) (fun _ _ _ h => h) (Or.inl ⟨by rfl, ?_⟩) hS0 ?_
      rotate_left
      · intro W hW; obtain ⟨s1, s2, s3⟩ := hW; first | (go_simp; done) | (go_simp; with_reducible rfl)
      simp only [Act.put, List.setIfInBounds_toArray, List.set_cons_zero, List.set_cons_succ]
      refine AnyZ.takeE (i := 10) (d := 75) (oi := _) (v := ?_) rfl rfl rfl (by kernel_rfl) (by kernel_rfl) (by kernel_rfl) (by kernel_rfl) (by kernel_rfl) (by kernel_rfl) (fun _ _ _ h => h) (Or.inl ⟨by rfl, ?_⟩) hS0 ?_
      rotate_left
      · intro W hW; obtain ⟨s1, s2, s3⟩ := hW; first | (go_simp; done) | (go_simp; with_reducible rfl)
      simp only [Act.put, List.setIfInBounds_toArray, List.set_cons_zero, List.set_cons_succ]
      refine AnyZ.takeE (i := 11) (d := 76) (oi := _) (v := ?_) rfl rfl rfl (by kernel_rfl) (by kernel_rfl) (by kernel_rfl) (by kernel_rfl) (by kernel_rfl) (by kernel_rfl) (fun _ _ _ h => h) (Or.inl ⟨by rfl, ?_⟩) hS0 ?_
      rotate_left
      · intro W hW; obtain ⟨s1, s2, s3⟩ := hW; first | (go_simp; done) | (go_simp; with_reducible rfl)
      simp only [Act.put, List.setIfInBounds_toArray, List.set_cons_zero, List.set_cons_succ]
      refine AnyZ.step (i := 12) rfl (by kernel_rfl) (fun K hK => ?_)
      go_simp
      refine hK.out _ _ (fun _ => ?_) ?_
      · exact HS6.out.ext (by repeat' (first | (with_reducible exact Below.refl _ _) | (with_reducible assumption) | (with_reducible refine below_drewN ?_ _) | (with_reducible refine Below.drew ?_) | (with_reducible refine ext_alloc ?_ _) | (with_reducible refine Below.setCell ?_ ?_ _) | go_size))
      clear hK K
      refine AnyZ.step (i := 13) rfl (by kernel_rfl) (fun K hK => ?_)
      refine step_append_at rfl _ _ 71 rfl wn.heap.size 134 j0_ _ 16 Try.underlying71 hj0 hy0 hy1 hy2 rfl (by omega) len_e2 one_e2 _ _ (by rfl) (HO.out.ext (by repeat' (first | (with_reducible exact Below.refl _ _) | (with_reducible assumption) | (with_reducible refine below_drewN ?_ _) | (with_reducible refine Below.drew ?_) | (with_reducible refine ext_alloc ?_ _) | (with_reducible refine Below.setCell ?_ ?_ _) | go_size))) (some ⟨wr.heap.size, 0, none⟩) 1 1 [(x, y)] (by simp [Act.eval]) ((At.pair1 wr x y _).ext (by repeat' (first | (with_reducible exact Below.refl _ _) | (with_reducible assumption) | (with_reducible refine below_drewN ?_ _) | (with_reducible refine Below.drew ?_) | (with_reducible refine ext_alloc ?_ _) | (with_reducible refine Below.setCell ?_ ?_ _) | go_size))) S1.out S2.out (by have := S3.out; exact this) ?_
      intro v7 w7 o7 g7 _ _
      have S7 := hide ((HS6.out.ext (by repeat' (first | (with_reducible exact Below.refl _ _) | (with_reducible assumption) | (with_reducible refine below_drewN ?_ _) | (with_reducible refine Below.drew ?_) | (with_reducible refine ext_alloc ?_ _) | (with_reducible refine Below.setCell ?_ ?_ _) | go_size))).grown g7 (HLNE.out gf hgn) (HLNE.out bT hbL))
      refine hK.out _ _ (fun _ => ?_) ?_
      · exact S7.out
      clear hK K
      simp only [Act.put, List.setIfInBounds_toArray, List.set_cons_zero, List.set_cons_succ]
      obtain ⟨A7, c7, hv7, _⟩ := o7.at_ len_e2
      subst hv7
      simp only [List.length_append, List.length_singleton] at o7
      have F7 := hide (HFb.out _ g7)
      have O7 := hide o7
      have G7 := hide g7
      have x7 : w7.cell? ⟨gf, 5, none⟩ = some (.slice vA (prK l k).length vc) := F7.out.cell 5
      have z7 := F7.out.frozen 5
      clear o7 g7 x5 z5 a0 a1 hS0
      refine AnyZ.step (i := 14) rfl (by kernel_rfl) (fun K hK => ?_)
      go_simp
      refine hK.out _ _ (fun h => ?_) ?_
      · exact absurd (h.symm.trans (show _ = true by kernel_rfl)) (by simp)
      clear hK K
      refine AnyZ.step (i := 15) rfl (by kernel_rfl) (fun K hK => ?_)
      go_simp
      refine hK.out _ _ (fun h => ?_) ?_
      · exact absurd (h.symm.trans (show _ = true by kernel_rfl)) (by simp)
      clear hK K
      refine AnyZ.done (by kernel_rfl) ?_ _
      have hlo := O7.out.lt
      have F8 : Hid (Blk (w7.setCell ⟨gf, 5, none⟩ (.slice A7 ((prK l k).length + 1) c7)) gf 73 #[.int .i64 (rtT b).start, .slice S sn sc, .slice H_ h_n h_c, .slice Z zn zc, .slice kA kn kc, .slice A7 ((prK l k).length + 1) c7, .slice none 0 0]) := hide (F7.out.set_ 5 _)
      have O8 := hide (O7.out.tw (Tw.set_ w7 gf 5 (.slice A7 ((prK l k).length + 1) c7) none) (fun e => by have := (hlo _ e).1; omega) (fun g _ e => by cases e))
      have T8 : Hid (Tw wn (w7.setCell ⟨gf, 5, none⟩ (.slice A7 ((prK l k).length + 1) c7)) gf none) := hide (((HT.out.trans (Tw.of_ext (Ext.trans (Ext.alloc _ _) (Ext.drew _)) _ _)).row G7.out (fun g e => .inl (HLT g e).1)).trans (Tw.set_ _ _ _ _ _))
      clear F7 G7 O7 x7 z7
      go_wp2_with fail
      exact ⟨⟨k + 1, i + 2, _, by have := HK.out.1; omega, HK.out.2, by go_num, hide (by rw [HSU.out]; exact O8.out), F8, T8⟩, by simp [intOf]; omega⟩
    · have hk2 : k = N / 2 := by omega
      have i1 : ¬ (i : Int) + 1 < (N : Int) := by omega
      have HE : Hid (prK l k = prL (r6F b).1) := hide (by rw [← HLL.out]; unfold prL; rw [HNL.out, hk2])
      have HKK := hide hk2
      clear hk2 hlt
      obtain ⟨wx, hwx⟩ : ∃ wx, wx = wr := ⟨_, rfl⟩
      subst hwx
      have IX := hide (IN.out.tw HT.out hgw)
      have L5_x : Hid (LA wx (gf + 1) 2 e2 vA (prK l k).length vc (prL (r6F b).1)) := hide ⟨by rw [← HE.out]; exact HAT.out, fun a ha => by subst ha; have := (HLT a.block rfl).1; omega⟩
      have L1_x := hide (L1_n.out.tw HT.out (by omega))
      have L2_x := hide (L2_n.out.tw HT.out (by omega))
      have L3_x := hide (L3_n.out.tw HT.out (by omega))
      have L4_x := hide (L4_n.out.tw HT.out (by omega))
      go_wp2_with fail
      with_reducible refine (HL1.out _ _ IX.out HP.out.2.2.2.2.2.2.1).mono ?_
      rintro e wy ⟨P, pn, pc, rfl, ay, by_, ty, ly⟩
      have IY : Hid (RtK w wy A n c (r7F b).2) := hide (IX.out.call by_ ty)
      have FY := hide (ty.blk HF.out (by omega) (by simp))
      have L6_y : Hid (LA wy (gf + 1) 1 e64 P pn pc (r7F b).1) := hide ⟨ay, fun a ha => by have := ly a ha; have := HF.out.lt; omega⟩
      have L1_y := hide (L1_x.out.tw ty (by omega))
      have L2_y := hide (L2_x.out.tw ty (by omega))
      have L3_y := hide (L3_x.out.tw ty (by omega))
      have L4_y := hide (L4_x.out.tw ty (by omega))
      have L5_y := hide (L5_x.out.tw ty (by omega))
      have gc : wy.cell? ⟨gf, 6, none⟩ = some (.slice none 0 0) := FY.out.cell 6
      have gz := FY.out.frozen 6
      clear ay by_ ty ly IX L1_x L2_x L3_x L4_x L5_x L1_n L2_n L3_n L4_n
      go_upto_region 18 with (fail)
      refine gen_wpC fun wz hz => ?_
      have SZ : Hid (Tw wy wz gf none) := hide (by rw [hz]; exact Tw.set_ _ _ _ _ _)
      have IZ := hide (IY.out.tw SZ.out hgw)
      have FZ : Hid (Blk wz gf 73 #[.int .i64 (rtT b).start, .slice S sn sc, .slice H_ h_n h_c, .slice Z zn zc, .slice kA kn kc, .slice vA (prK l k).length vc, .slice P pn pc]) := hide (by rw [hz]; exact FY.out.set_ 6 _)
      have L1_z := hide (L1_y.out.tw SZ.out (by omega))
      have L2_z := hide (L2_y.out.tw SZ.out (by omega))
      have L3_z := hide (L3_y.out.tw SZ.out (by omega))
      have L4_z := hide (L4_y.out.tw SZ.out (by omega))
      have L5_z := hide (L5_y.out.tw SZ.out (by omega))
      have L6_z := hide (L6_y.out.tw SZ.out (by omega))
      clear hz SZ IY FY gc gz L1_y L2_y L3_y L4_y L5_y L6_y
      have HED : Hid (rtE b = if (r7F b).2.bad = false ∧ (r7F b).2.pos < b.length then ⟨(r7F b).2.pos, true⟩ else (r7F b).2) := hide rfl
      obtain ⟨p9, hb9, hp9⟩ := IZ.out.rdr
      have r1 : wz.cell? ⟨w.heap.size + 1, 1, none⟩ = some (.int .i64 p9) := hb9.cell 1
      have r2 : wz.cell? ⟨w.heap.size + 1, 2, none⟩ = some (.int .i64 (badI (r7F b).2)) := hb9.cell 2
      have r3 : wz.frozen? ⟨w.heap.size + 1, 2, none⟩ = false := hb9.frozen 2
      have HB9 := hide hb9
      have HP9 := hide hp9
      have HBN9 := hide (badI_neg (r7F b).2)
      clear hb9 hp9
      go_cut [96] (fun sc wx => ∃ go : Bool, sc = .bool go ∧ wz = wx ∧ Hid (go = decide ((r7F b).2.bad = false ∧ (r7F b).2.pos < b.length)))
      case first =>
        obtain ⟨bi, hbi⟩ : ∃ bi, bi = badI (r7F b).2 := ⟨_, rfl⟩
        rw [← hbi] at r2 HBN9
        clear hbi
        by_cases hneg : bi < 0
        · have i0 : decide (bi < 0) = true := by simp; omega
          have HG9 : Hid (decide (p9 < (n : Int)) = decide ((r7F b).2.bad = false ∧ (r7F b).2.pos < b.length)) := hide (by
            have h1 := HBN9.out.1 hneg
            have h2 := HP9.out h1
            have h3 := HL.out
            rw [Bool.eq_iff_iff, decide_eq_true_iff, decide_eq_true_iff]; exact ⟨fun h => ⟨h1, by omega⟩, fun h => by have := h.2; omega⟩)
          go_wp2_with fail
          go_meet
          exact ⟨_, by first | rfl | simp, rfl, by first | exact HG9 | exact hide (by have := HG9.out; simpa using this)⟩
        · have i0 : decide (bi < 0) = false := by simp; omega
          have HG9 : Hid (false = decide ((r7F b).2.bad = false ∧ (r7F b).2.pos < b.length)) := hide (by symm; rw [decide_eq_false_iff_not]; exact fun h => hneg (HBN9.out.2 h.1))
          go_wp2_with fail
          go_meet
          exact ⟨false, rfl, rfl, HG9⟩
      case rest =>
      obtain ⟨go9, rfl, hw9, HG9⟩ := hcut
      subst hw9
      go_upto_if 96 with (fail)
      go_cut [] (fun wx => Hid (RtK w wx A n c (rtE b)) ∧ Hid (Tw wz wx (w.heap.size + 1) none))
      case first =>
        cases go9 with
        | true =>
          have hg9 := of_decide_eq_true HG9.out.symm
          have HE9 : Hid (rtE b = ⟨(r7F b).2.pos, true⟩) := hide (by rw [HED.out, if_pos hg9])
          have hpe := HP9.out hg9.1
          subst hpe
          clear hg9 HG9
          go_wp2_with fail
          go_meet
          exact ⟨hide (by rw [HE9.out]; exact IZ.out.call ⟨_, HB9.out.set_ 2 _, fun h => by cases h⟩ (Tw.set_ _ _ _ _ _)), hide (Tw.set_ _ _ _ _ _)⟩
        | false =>
          have hg9 := of_decide_eq_false HG9.out.symm
          have HE9 : Hid (rtE b = (r7F b).2) := hide (by rw [HED.out, if_neg hg9])
          clear hg9 HG9
          go_wp2_with fail
          go_meet
          exact ⟨hide (by rw [HE9.out]; exact IZ.out), hide (Tw.refl _ _ _)⟩
      case rest =>
      obtain ⟨IU, TU⟩ := hcut
      obtain ⟨wu, hwu⟩ : ∃ wu, wu = wc := ⟨_, rfl⟩
      subst hwu
      have FU := hide (TU.out.blk FZ.out (by omega) (by simp))
      have L1_u := hide (L1_z.out.tw TU.out (by omega))
      have L2_u := hide (L2_z.out.tw TU.out (by omega))
      have L3_u := hide (L3_z.out.tw TU.out (by omega))
      have L4_u := hide (L4_z.out.tw TU.out (by omega))
      have L5_u := hide (L5_z.out.tw TU.out (by omega))
      have L6_u := hide (L6_z.out.tw TU.out (by omega))
      clear r1 r2 r3 HB9 HG9 IZ FZ TU L1_z L2_z L3_z L4_z L5_z L6_z
      obtain ⟨p8, hb8, _⟩ := IU.out.rdr
      have r2 : wu.cell? ⟨w.heap.size + 1, 2, none⟩ = some (.int .i64 (badI (rtE b))) := hb8.cell 2
      clear hb8
      have z0 := IU.out.res.frozen 0
      have y0 : wu.cell? ⟨w.heap.size, 0, none⟩ = some (.int .i64 0) := IU.out.res.cell 0
      have z1 := IU.out.res.frozen 1
      have y1 : wu.cell? ⟨w.heap.size, 1, none⟩ = some (.slice none 0 0) := IU.out.res.cell 1
      have z2 := IU.out.res.frozen 2
      have y2 : wu.cell? ⟨w.heap.size, 2, none⟩ = some (.slice none 0 0) := IU.out.res.cell 2
      have z3 := IU.out.res.frozen 3
      have y3 : wu.cell? ⟨w.heap.size, 3, none⟩ = some (.slice none 0 0) := IU.out.res.cell 3
      have z4 := IU.out.res.frozen 4
      have y4 : wu.cell? ⟨w.heap.size, 4, none⟩ = some (.slice none 0 0) := IU.out.res.cell 4
      have z5 := IU.out.res.frozen 5
      have y5 : wu.cell? ⟨w.heap.size, 5, none⟩ = some (.slice none 0 0) := IU.out.res.cell 5
      have z6 := IU.out.res.frozen 6
      have y6 : wu.cell? ⟨w.heap.size, 6, none⟩ = some (.slice none 0 0) := IU.out.res.cell 6
      have g0 : wu.cell? ⟨gf, 0, none⟩ = some (.int .i64 (rtT b).start) := FU.out.cell 0
      have g1 : wu.cell? ⟨gf, 1, none⟩ = some (.slice S sn sc) := FU.out.cell 1
      have g2 : wu.cell? ⟨gf, 2, none⟩ = some (.slice H_ h_n h_c) := FU.out.cell 2
      have g3 : wu.cell? ⟨gf, 3, none⟩ = some (.slice Z zn zc) := FU.out.cell 3
      have g4 : wu.cell? ⟨gf, 4, none⟩ = some (.slice kA kn kc) := FU.out.cell 4
      have g5 : wu.cell? ⟨gf, 5, none⟩ = some (.slice vA (prK l k).length vc) := FU.out.cell 5
      have g6 : wu.cell? ⟨gf, 6, none⟩ = some (.slice P pn pc) := FU.out.cell 6
      go_upto_region 20 with (fail)
      rename_i qK0 qa0
      have QA0 := hide qa0
      clear qa0
      go_region
      refine QA0.out _ _ (wp_ret ?_)
      change bodyPost Try.prog Try.f90 (RbGives w b) Exit.ret _ _
      refine gen_bod fun w8 h8 => ?_
      have T8 : Hid (Tw wu w8 w.heap.size none) := hide (by rw [h8]; have q7 := Tw.set7 wu w.heap.size (.int .i64 (rtT b).start) (.slice S sn sc) (.slice H_ h_n h_c) (.slice Z zn zc) (.slice kA kn kc) (.slice vA (prK l k).length vc) (.slice P pn pc); exact q7.drew)
      have R8 : Hid (Blk w8 w.heap.size 73 #[.int .i64 (rtT b).start, .slice S sn sc, .slice H_ h_n h_c, .slice Z zn zc, .slice kA kn kc, .slice vA (prK l k).length vc, .slice P pn pc]) := hide (by rw [h8]; have q7 := (((((((IU.out.res.set_ 0 (.int .i64 (rtT b).start)).set_ 1 (.slice S sn sc)).set_ 2 (.slice H_ h_n h_c)).set_ 3 (.slice Z zn zc)).set_ 4 (.slice kA kn kc)).set_ 5 (.slice vA (prK l k).length vc)).set_ 6 (.slice P pn pc)); exact q7.drew)
      have k0 : w8.cell? ⟨w.heap.size, 0, none⟩ = some (.int .i64 (rtT b).start) := R8.out.cell 0
      have k1 : w8.cell? ⟨w.heap.size, 1, none⟩ = some (.slice S sn sc) := R8.out.cell 1
      have k2 : w8.cell? ⟨w.heap.size, 2, none⟩ = some (.slice H_ h_n h_c) := R8.out.cell 2
      have k3 : w8.cell? ⟨w.heap.size, 3, none⟩ = some (.slice Z zn zc) := R8.out.cell 3
      have k4 : w8.cell? ⟨w.heap.size, 4, none⟩ = some (.slice kA kn kc) := R8.out.cell 4
      have k5 : w8.cell? ⟨w.heap.size, 5, none⟩ = some (.slice vA (prK l k).length vc) := R8.out.cell 5
      have k6 : w8.cell? ⟨w.heap.size, 6, none⟩ = some (.slice P pn pc) := R8.out.cell 6
      refine bodyPost_ret (v := .tuple #[.agg #[.int .i64 (rtT b).start, .slice S sn sc, .slice H_ h_n h_c, .slice Z zn zc, .slice kA kn kc, .slice vA (prK l k).length vc, .slice P pn pc], .int .i64 (badI (rtE b))]) (by simp [results, Try.results90, go_sem, k0, k1, k2, k3, k4, k5, k6]) rfl ?_
      refine ⟨_, rfl, ⟨_, _, _, _, _, _, _, _, _, _, _, _, _, _, _, _, _, _, rfl, ⟨(L1_u.out.tw T8.out (by omega)).at_, (L2_u.out.tw T8.out (by omega)).at_, (L3_u.out.tw T8.out (by omega)).at_, (L4_u.out.tw T8.out (by omega)).at_, ?_, (L5_u.out.tw T8.out (by omega)).at_, (L6_u.out.tw T8.out (by omega)).at_⟩, fun a ha => by
        rcases ha with h | h | h | h | h | h
        · have := L1_u.out.lo a h; omega
        · have := L2_u.out.lo a h; omega
        · have := L3_u.out.lo a h; omega
        · have := L4_u.out.lo a h; omega
        · have := L5_u.out.lo a h; omega
        · have := L6_u.out.lo a h; omega⟩, tw_ext' IU.out.ext T8.out (Nat.le_refl _)⟩
      rw [HKN.out]; show _ ↔ (!hasK b) = true; simp
end Go.Proofs.Ytlonhkjplijlcaa
