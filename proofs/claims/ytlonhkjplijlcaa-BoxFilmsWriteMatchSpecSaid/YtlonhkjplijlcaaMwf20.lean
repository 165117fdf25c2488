/- Walk: laid (reference). Conditions as stated. -/
import Derived.Test.YtlonhkjplijlcaaMwf19
namespace Go.Proofs.Ytlonhkjplijlcaa
open Go.RowKit
theorem pcB_join {b : List UInt8} {i j k : Nat} (h1 : i ≤ j) (h2 : j ≤ k) : pcB b i j ++ pcB b j k = pcB b i k := by
  unfold pcB
  obtain ⟨p, rfl⟩ : ∃ p, j = i + p := ⟨j - i, by omega⟩
  obtain ⟨q, rfl⟩ : ∃ q, k = i + p + q := ⟨k - (i + p), by omega⟩
  rw [show i + p + q - i = p + q by omega, show i + p - i = p by omega, show i + p + q - (i + p) = q by omega, List.take_add, List.drop_drop]
theorem pcB_nil (b : List UInt8) (i : Nat) : pcB b i i = [] := by unfold pcB; rw [Nat.sub_self, List.take_zero]
theorem set_self {l : List Int} {i : Nat} (hi : i < l.length) : l.set i (l.getD i 0) = l := by
  apply List.ext_getElem
  · simp
  · intro k h1 h2
    rw [List.getElem_set]
    split
    · subst_vars; simp [List.getD_eq_getElem?_getD, h2]
    · rfl
theorem set_twice {l : List Int} {i : Nat} {x y : Int} : (l.set i x).set i y = l.set i y := by
  apply List.ext_getElem
  · simp
  · intro k h1 h2
    rw [List.getElem_set, List.getElem_set, List.getElem_set]
    split <;> simp_all
theorem set_at {l : List Int} {i : Nat} {x : Int} (hi : i < l.length) : (l.set i x).getD i 0 = x := by simp [List.getD_eq_getElem?_getD, hi]
/-- A cell apart from the array, from the numbers beside and from a row that grows. -/
structure Cel (W : World) (gp gt cg k : Nat) (u v : Value) : Prop where
  cell : W.cell? ⟨cg, k, none⟩ = some u
  n1 : cg ≠ gp
  n2 : cg ≠ gt
  n3 : v.ownBlock ≠ some cg
section
variable {W W' : World} {gp gt cg k : Nat} {u v : Value}
theorem cell_heap {W W' : World} {a : Addr} {u : Value} (h : W'.heap[a.block]? = W.heap[a.block]?) (hc : W.cell? a = some u) : W'.cell? a = some u := by
  unfold World.cell? at hc ⊢
  rw [h]
  exact hc
theorem Cel.ext (h : Cel W gp gt cg k u v) (he : Ext W W') : Cel W' gp gt cg k u v := ⟨he.cell h.cell, h.n1, h.n2, h.n3⟩
theorem Cel.set_ (h : Cel W gp gt cg k u v) {o i : Nat} {x : Value} (ho : o = gp ∨ o = gt) : Cel (W.setCell ⟨o, i, none⟩ x) gp gt cg k u v := by
  refine ⟨cell_heap ?_ h.cell, h.n1, h.n2, h.n3⟩
  exact Below.heap_setCell W ⟨o, i, none⟩ x cg (by
    intro e
    have e2 : cg = o := by simpa using e
    rcases ho with ho | ho
    · exact h.n1 (e2.trans ho)
    · exact h.n2 (e2.trans ho))
theorem Cel.row (h : Cel W gp gt cg k u v) {row : Option Nat} (hg : W.grownBy W' row) (hr : row ≠ some cg) : Cel W' gp gt cg k u v :=
  ⟨cell_heap (hg.block cg (by have := cell_lt h.cell; simpa using this) (fun e => hr e.symm)) h.cell, h.n1, h.n2, h.n3⟩
theorem Cel.out (h : Cel W gp gt cg k u v) {v' : Value} (hg : W.grownBy W' v.ownBlock) (hv : v'.ownBlock = v.ownBlock ∨ v'.ownBlock = some W.heap.size) : Cel W' gp gt cg k u v' := by
  have hlt : cg < W.heap.size := by have := cell_lt h.cell; simpa using this
  refine ⟨(h.row hg h.n3).cell, h.n1, h.n2, fun e => ?_⟩
  rcases hv with hv | hv
  · exact h.n3 (hv ▸ e)
  · rw [hv] at e; injection e with e; omega
end
/-- What is left of rounds. -/
def mesR (r b : Value) : Nat := match b with
  | .bool true => 5002 - (intOf r).toNat
  | _ => 0
theorem mesR_lt {b : Bool} {r : Nat} (h : r ≤ 5000) : mesR (.int .i64 ((r : Int) + 1)) (.bool b) < mesR (.int .i64 (r : Int)) (.bool true) := by
  cases b with
  | false => unfold mesR; simp [intOf]; omega
  | true => unfold mesR; simp [intOf]; omega
set_option linter.unusedVariables false in
set_option linter.unusedSimpArgs false in
set_option maxRecDepth 100000 in
set_option maxHeartbeats 16000000 in
theorem refLaid_any {sc : Int} {A : Option Addr} {n c : Nat} {hs : List TrkH} {T : List TrkT} {B : Option Addr} {m d : Nat} {es : List (Option Addr × Nat × Nat)} {D : List (List UInt8)} {ch fr : Nat} {w : World} (h : TksAt w A n c hs T) (hd : DtsAt w B m d es D) (hr : FilR T) (hz : datF T D = 0) (hc : 1 ≤ ch) (hc2 : ch ≤ 1000) (hf : fr ≤ 1000000000) :
    Calls Try.prog 23 #[.agg #[.int .i64 sc, .slice A n c], .slice B m d, .int .i64 (ch : Int), .int .i64 (fr : Int)] w (LayG w n (layF T D ch fr)) := by
  have hmn : m = n := by have := (datF_zero hz).1; rw [hd.len, h.len] at this; exact this
  subst hmn
  have HT := hide h
  have HD := hide hd
  have HTL : Hid (T.length = m) := hide h.len
  have HR := hide (fun (i : Nat) (hi : i < m) => hr.smp i (by rw [h.len]; exact hi))
  have HDT := hide (fun (i : Nat) (hi : i < m) => (datF_zero hz).2 i (by rw [h.len]; exact hi))
  have hn8 : m ≤ 8 := by have := hr.few; rw [h.len] at this; exact this
  have HOB := hide (layR_out (D := D) (ch := ch) (from_ := fr) (fun i hi => (hr.smp i hi).1) hc2 hr.few)
  have HKB := hide (fun (r : Nat) => layK_out (D := D) (ch := ch) (from_ := fr) (n := r) (s := layR T D ch fr r) (fun i hi => (hr.smp i hi).1) hc2)
  have HFW := hide (layR_few (D := D) (ch := ch) (from_ := fr) (fun i hi => (hr.smp i hi).2) hc)
  have HFK := hide (fun (r : Nat) => layK_few (D := D) (ch := ch) (from_ := fr) (n := r) (s := layR T D ch fr r) (fun i hi => (hr.smp i hi).2) hc (fun j => layR_few (D := D) (ch := ch) (from_ := fr) (fun i hi => (hr.smp i hi).2) hc r j))
  have HEND := hide (fun (r : Nat) (h0 : ∀ i, i < m → (T.getD i default).smp.length ≤ r * ch) (h5 : r ≤ 5001) => layF_at (D := D) (from_ := fr) (fun i hi => h0 i (by rw [← HTL.out]; exact hi)) h5)
  have HMF := hide (fun (r : Nat) => moB_few (T := T) (ch := ch) (n := r) (i := m) (fun k hk => (HR.out k hk).2) hc)
  have X0 := hide (Blk.new w 24 #[.int .i64 sc, .slice A m c])
  have E0 := hide (Ext.alloc w (.cells #[.int .i64 sc, .slice A m c] 24))
  obtain ⟨i0_, hi0, hz0, hz1, hz2⟩ := info_parts Try.info3
  obtain ⟨j0_, hj0, hy0, hy1, hy2⟩ := info_parts Try.info70
  have hmk1 := made_run (P := Try.prog) 41 70 j0_ (.slice none 0 0) Try.underlying41 hj0 hy0 (sz := 1) hy1 (bytes := 24) hy2 m (by omega) (by omega)
  have hmk2 := made_run (P := Try.prog) 70 3 i0_ (.int .i64 0) Try.underlying70 hi0 hz0 (sz := 1) hz1 (bytes := 8) hz2 m (by omega) (by omega)
  have hml : m ≤ maxLen := by unfold maxLen; omega
  obtain ⟨u0_, hu0, hv0, hv1, hv2⟩ := info_parts Try.info5
  have HCH := hide (fun (n : Nat) (hn : n ≤ 5000) (W : World) => refChunks_any (w := W) (n := n) hn hc hc2)
  have HCN := hide (fun (n r : Nat) => ckN_lt (n := n) (k := r) hc)
  have HCG := hide (fun (n r : Nat) (hr : r < ckN n ch) => ckK_get (n := n) (ch := ch) hr)
  clear h hd hr hz hj0 hy0 hy1 hy2
  go_enter Try.func23, Try.ntmps23
  go_upto_region 1 with (fail)
  refine gen_wpC fun w0 h0 => ?_
  rw [← h0] at X0 E0
  clear h0
  have x1 : w0.cell? ⟨w.heap.size, 1, none⟩ = some (.slice A m c) := X0.out.cell 1
  go_upto_region 2 with (fail)
  refine gen_wpC fun w1 h1 => ?_
  obtain ⟨gp, hgp⟩ : ∃ gp, gp = w0.heap.size := ⟨_, rfl⟩
  have L1 : Hid (LaM w0 w1 gp m (List.replicate m dR) (List.replicate m []) [] (.slice none 0 0) []) := hide (by have h9 := LaM.start (w0 := w0) hml; rw [Nat.mul_one] at h9; rw [h1, hgp]; exact h9)
  rw [← hgp]
  clear h1 x1 hmk1 hgp
  have x1 : w1.cell? ⟨w.heap.size, 1, none⟩ = some (.slice A m c) := L1.out.ext.cell (X0.out.cell 1)
  go_upto_region 3 with (fail)
  refine gen_wpC fun w2 h2 => ?_
  obtain ⟨gt, hgt⟩ : ∃ gt, gt = w1.heap.size := ⟨_, rfl⟩
  have L3 : Hid (LaM w0 w2 gp m (List.replicate m dR) (layR T D ch fr 0).pl [(gt, tknV T ch 0 0 m)] (.slice none 0 0) (layR T D ch fr 0).out) := hide (by have h9 := L1.out.addS hml; rw [Nat.mul_one] at h9; rw [tknV_start, layR, HTL.out, h2, hgt]; exact h9)
  rw [← hgt]
  clear h2 x1 hgt L1 hmk2
  go_wp2_with fail
  go_loopw [12, 13, 14] (fun r12 r13 r14 wr => ∃ (r : Nat) (b : Bool) (hv : List (Option Addr × Nat × Nat)), r13 = .int .i64 (r : Int) ∧ r14 = .bool b ∧ r ≤ 5001 ∧ (b = true → r ≤ 5000) ∧ Hid (b = false → ∀ k, k < m → (T.getD k default).smp.length ≤ r * ch) ∧ Hid (LaM w0 wr gp m hv (layR T D ch fr r).pl [(gt, tknV T ch r 0 m)] r12 (layR T D ch fr r).out)) (fun _ r13 r14 _ => mesR r13 r14)
  case atStart => exact ⟨0, true, _, rfl, rfl, by omega, by omega, hide (fun h => by cases h), L3⟩
  case round =>
    clear L3
    obtain ⟨r, b, hv, rfl, rfl, hr1, hr2, HB, HL⟩ := hrel
    have i8r : IntKind.i64.wrap ((r : Int) + 1) = (r : Int) + 1 := by rw [IntKind.wrap_i64]; omega
    cases b with
    | false =>
      have hE := HEND.out r (HB.out rfl) hr1
      have HE := hide hE
      clear hE
      go_wp2_with fail
      go_ret2
      exact ⟨w0, gp, hv, _, rfl, E0.out, by rw [HE.out]; exact HL.out.drop_⟩
    | true =>
      have hr5 := hr2 rfl
      have x1 : wr.cell? ⟨w.heap.size, 1, none⟩ = some (.slice A m c) := HL.out.ext.cell (X0.out.cell 1)
      go_wp2_with fail
      clear x1
      go_loopw [12, 14, 15] (fun r12 r14 ri wx => ∃ (i : Nat) (hu : List (Option Addr × Nat × Nat)), i ≤ m ∧ ri = .int .i64 (i : Int) ∧ r14 = .bool (moB T ch r i) ∧ Hid (LaM w0 wx gp m hu (layK T D ch fr r (layR T D ch fr r) i).pl [(gt, tknV T ch r i m)] r12 (layK T D ch fr r (layR T D ch fr r) i).out)) (fun _ _ ri _ => m - (intOf ri).toNat)
      case atStart => exact ⟨0, _, by omega, rfl, rfl, HL⟩
      case round =>
        clear HL
        obtain ⟨i, hu, hi, rfl, rfl, HK⟩ := hrel
        have i8 : IntKind.i64.wrap ((i : Int) + 1) = (i : Int) + 1 := by rw [IntKind.wrap_i64]; omega
        by_cases hlt : i < m
        · obtain ⟨b, o, rfl, _⟩ := HT.out.at_.addr (by omega)
          have x1 : wr.cell? ⟨w.heap.size, 1, none⟩ = some (.slice (some ⟨b, o, none⟩) m c) := HK.out.ext.cell (X0.out.cell 1)
          have hok := HT.out.ok i hlt
          have HSZ := hide (HR.out i hlt)
          obtain ⟨z, hz⟩ : ∃ z, hs.getD i default = z := ⟨_, rfl⟩
          rw [hz] at hok
          have HA2 : Hid (∀ W, Ext w W → W.cell? ⟨b, o + i * 4 + 2, none⟩ = some (.slice z.sA z.sn z.sc)) := hide (fun W hW => (HT.out.at_.ext hW).cellK hlt default 2 _ (by rw [hz]; rfl))
          have HS := hide hok.2.2.1
          have hsl := HS.out.len
          have HSL := hide hsl
          have HD1 := hide (HD.out.ok i hlt)
          have HD2 := hide (HDT.out i hlt)
          have hsb : z.sn ≤ 5000 := by have := HSZ.out.2; omega
          have HLI : Hid (layK T D ch fr r (layR T D ch fr r) (i + 1) = layI T D ch fr r i (layK T D ch fr r (layR T D ch fr r) i)) := hide rfl
          have HMB : Hid (moB T ch r (i + 1) = (moB T ch r i || decide (r * ch < (T.getD i default).smp.length))) := hide rfl
          have HTA := hide (tknV_at (T := T) (ch := ch) (n := r) hlt)
          have HTS := hide (tknV_set (T := T) (ch := ch) (n := r) hlt)
          have HTL2 : Hid ((tknV T ch r i m).length = m) := hide (rngV_len _ _)
          have HTK := hide (fun h => tknV_skip (T := T) (ch := ch) (n := r) (i := i) (m := m) h)
          have HLU : Hid (∀ s : LayS, layI T D ch fr r i s = if (T.getD i default).smp.length ≤ r * ch then s
            else ⟨s.pl.set i (s.pl.getD i [] ++ [((fr + s.out.length : Nat) : Int)]), s.out ++ pcB (D.getD i []) (szN ((T.getD i default).smp.take (r * ch))) (szN ((T.getD i default).smp.take (min (r * ch + ch) (T.getD i default).smp.length)))⟩) := hide (fun _ => rfl)
          have HPB : Hid (r * ch ≤ 5000000) := hide (Nat.mul_le_mul hr5 hc2)
          have HOB1 := hide (Nat.le_trans (HKB.out r i (by have := HTL.out; omega)) (Nat.add_le_add (HOB.out r) (Nat.mul_le_mul_left _ hi)))
          have HRB1 := hide (HFK.out r i (by have := HTL.out; omega) i)
          have HCH1 := hide (HCH.out z.sn hsb)
          have HCN1 := hide (HCN.out z.sn r)
          have HCG1 := hide (HCG.out z.sn r)
          have k1 : IntKind.i64.wrap ((r : Int) * (ch : Int)) = ((r * ch : Nat) : Int) := by rw [← Int.natCast_mul, IntKind.wrap_i64]; have := HPB.out; omega
          generalize hK1 : layK T D ch fr r (layR T D ch fr r) (i + 1) = K1 at *
          have HK1 := hide hK1
          clear hK1
          generalize layK T D ch fr r (layR T D ch fr r) i = K0 at *
          generalize hM1 : moB T ch r (i + 1) = M1 at *
          have HM1_ := hide hM1
          clear hM1
          generalize moB T ch r i = M0 at *
          generalize hTV1 : tknV T ch r (i + 1) m = TV1 at *
          have HTV1 := hide hTV1
          clear hTV1
          generalize tknV T ch r i m = TV0 at *
          generalize r * ch = P at *
          have hPb := HPB.out
          generalize (T.getD i default).smp = sm at *
          generalize D.getD i [] = dd at *
          generalize z.sA = sA at *
          generalize z.sn = sn at *
          generalize z.sc = scc at *
          have i1 : (i : Int) < (m : Int) := by omega
          have i0 : (0 : Int) ≤ (i : Int) := by omega
          have a2 := HA2.out _ (Ext.trans E0.out HK.out.ext)
          clear hok hz
          go_wp2_with fail
          with_reducible refine (HCH1.out _).mono ?_
          rintro e w6 ⟨vC, rfl, oC, eC⟩
          obtain ⟨cA, cc, hvC, atC⟩ := oC.at_ len_e64
          have HCL : Hid ((ckL sn ch).length = ckN sn ch) := hide (ckK_len _ _ _)
          have OC := hide oC
          have L6 := hide (HK.out.extW eC)
          have HWS : Hid (∀ g, (Value.slice cA (ckL sn ch).length cc).ownBlock = some g → wr.heap.size ≤ g) := hide (fun g hg => (oC.lt g (by rw [hvC]; exact hg)).1)
          have HLT : Hid (LaM w0 wr gp m hu K0.pl [(gt, TV0)] _ K0.out) := HK
          rw [HCL.out] at hvC HWS
          subst hvC
          clear oC atC eC x1 a2 HK HCH1
          by_cases hsk : sm.length ≤ P
          · have HL1 : Hid (K1 = K0) := hide (by rw [HLI.out, HLU.out, if_pos hsk])
            have HM1 : Hid (Value.bool M0 = Value.bool M1) := hide (by rw [HMB.out, decide_eq_false (by omega), Bool.or_false])
            have HT1 : Hid (TV1 = TV0) := hide (HTK.out hsk)
            have j1 : (ckN sn ch : Int) ≤ (r : Int) := by
              have : ¬ r < ckN sn ch := fun h => by have := HCN1.out.1 h; omega
              omega
            clear hsk
            go_wp2_with fail
            exact ⟨⟨i + 1, hu, by omega, by go_num, by rw [HM1.out, HM1_.out], hide (by rw [HK1.out, HTV1.out, HL1.out, HT1.out]; exact L6.out)⟩, by simp [intOf]; omega⟩
          · have hP : P < sm.length := by omega
            obtain ⟨e, he⟩ : ∃ e, e = min sm.length (P + ch) := ⟨_, rfl⟩
            have he2 : min (P + ch) sm.length = e := by omega
            have hPe : P ≤ e := by omega
            have hPe2 : P < e := by omega
            have hes : e ≤ sn := by omega
            have hrc : r < ckN sn ch := HCN1.out.2 (by omega)
            have j1 : ¬ (ckN sn ch : Int) ≤ (r : Int) := by omega
            have j5 : (r : Int) < (ckN sn ch : Int) := by omega
            have j6 : (0 : Int) ≤ (r : Int) := by omega
            have HCV : Hid ((ckL sn ch).getD r 0 = ((e - P : Nat) : Int)) := hide (by unfold ckL; rw [HCG1.out hrc]; congr 1; omega)
            have HL1 : Hid (K1 = ⟨K0.pl.set i (K0.pl.getD i [] ++ [((fr + K0.out.length : Nat) : Int)]), K0.out ++ pcB dd (szN (sm.take P)) (szN (sm.take e))⟩) := hide (by rw [HLI.out, HLU.out, if_neg hsk, he2])
            have HM1 : Hid (Value.bool true = Value.bool M1) := hide (by rw [HMB.out, decide_eq_true hP, Bool.or_true])
            have HT1 : Hid (TV0.set i ((szN (sm.take e) : Nat) : Int) = TV1) := hide (by have := HTS.out; rw [← he] at this; exact this)
            have HTA1 : Hid (TV0.getD i 0 = (szN (sm.take P) : Int)) := hide (by rw [HTA.out, Nat.min_eq_right (by omega)])
            obtain ⟨oA, oc, ho13, hat13⟩ := L6.out.out_.at_ len_e8
            subst ho13
            obtain ⟨cg, rfl, hcg, _⟩ := OC.out.where_ (by omega) HCL.out
            have HCE : Hid (Cel w6 gp gt cg r (.int .i64 ((e - P : Nat) : Int)) (.slice oA K0.out.length oc)) := hide (by
              have h1 := (OC.out.atS len_e64).num hrc
              rw [Nat.zero_add, HCV.out] at h1
              have h2 := (HLT.out.pls.lt gp rfl).2
              have h3 := (HLT.out.slt (j := 0) (by simp)).2
              have h3 : gt < wr.heap.size := h3
              exact ⟨h1, by omega, by omega, fun h => by have := (HLT.out.out_.lt cg h).2; omega⟩)
            clear hsk HTK HTS HLU HLI HMB HTA he he2 hat13 HCN1 HCG1
            obtain ⟨rw_, hrw⟩ : ∃ x, hu.getD i dR = x := ⟨_, rfl⟩
            obtain ⟨rA, rn, rc⟩ := rw_
            have cP : w6.cell? ⟨gp, i, none⟩ = some (.slice rA rn rc) := by have := L6.out.row hlt; rw [hrw] at this; exact this
            have OW : Hid (Own w6 w0.heap.size 3 1 e64 (.slice rA rn rc) (K0.pl.getD i [])) := hide (by have := L6.out.rows i hlt; rw [hrw] at this; exact this)
            have HRC : Hid ((Value.slice rA rn rc).ownBlock ≠ some cg) := hide (fun h => by have h9 := ((HLT.out.rows i hlt).lt cg (by rw [hrw]; exact h)).2; omega)
            have hrb := HRB1.out.1
            have hob := HOB1.out
            obtain ⟨R0, hR0⟩ : ∃ R0, K0.pl.getD i [] = R0 := ⟨_, rfl⟩
            have HR0 := hide hR0
            rw [hR0] at OW hrb
            have S1 : Hid (R0.length + 1 ≤ maxLen) := hide (by unfold maxLen; omega)
            have S2 : Hid ((R0.length + 1) * 8 ≤ 140737488355328) := hide (by omega)
            have S3 : Hid (∀ x : Int, w0.heap.size ≤ (w6.alloc (.cells #[.int .i64 x] 3)).heap.size) := hide (fun x => by rw [World.size_alloc]; have := L6.out.ext.size; omega)
            have k9 : IntKind.i64.wrap ((fr : Int) + (K0.out.length : Int)) = ((fr + K0.out.length : Nat) : Int) := by rw [IntKind.wrap_i64]; omega
            have T1 : Hid (∀ q : Nat, q ≤ 1000000000 → K0.out.length + q ≤ maxLen ∧ (K0.out.length + q) * 1 ≤ 140737488355328) := hide (fun q hq => by unfold maxLen; omega)
            obtain ⟨x, hx⟩ : ∃ x : Int, x = ((fr + K0.out.length : Nat) : Int) := ⟨_, rfl⟩
            rw [← hx] at k9 HL1
            have HRW := hide hrw
            clear hrb hob hx hrw HLT hR0 hcg
            go_upto_region 15 with (at_builtin; refine wpList_append_at _ rfl (.tmp 55) (.tmp 60) 70 rfl w0.heap.size 3 i0_ _ 8 Try.underlying70 hi0 hz0 hz1 hz2 rfl (by omega) len_e64 one_e64 _ _ (by rfl) (OW.out.ext (Ext.alloc _ _)) (some ⟨w6.heap.size, 0, none⟩) 1 1 [x] (by rfl) (At.new1 w6 x _ rfl _) S1.out S2.out (S3.out x) ?_; intro v7 w7 o7 g7 n7 r7; obtain ⟨A7, c7, hv7, _⟩ := o7.at_ len_e64; generalize (R0 ++ [x]).length = n7_ at hv7; subst hv7; have F7 := L6.out.frA hlt (Ext.alloc w6 (.cells #[.int .i64 x] 3)) (W6 := w7) (by rw [HRW.out]; exact g7) i; have C7 : w7.cell? ⟨gp, i, none⟩ = some (.slice rA rn rc) := (by have h9 := L6.out.clA hlt (Ext.alloc w6 (.cells #[.int .i64 x] 3)) (W6 := w7) (by rw [HRW.out]; exact g7) hlt; rw [HRW.out] at h9; exact h9); have L7 := hide (LaM.app L6.out hlt (Ext.alloc w6 (.cells #[.int .i64 x] 3)) (by rw [HR0.out]; exact o7) (by rw [HRW.out]; exact g7) (by rw [HRW.out]; exact r7)); have CE7 := hide (((HCE.out.ext (Ext.alloc w6 (.cells #[.int .i64 x] 3))).row g7 HRC.out).set_ (o := gp) (i := i) (x := .slice A7 n7_ c7) (.inl rfl)); clear o7 g7 r7 n7)
            refine gen_wpC fun w8 h8 => ?_
            rw [← h8] at L7 CE7
            have L8 := hide L7.out
            have CE8 := hide CE7.out
            clear h8 F7 C7 cP OW L6 L7 CE7 HCE HRC
            obtain ⟨b2, o2, rfl, _⟩ := HD.out.at_.addr (by omega)
            have HDC : Hid (∀ (W : World), Ext w W → W.cell? ⟨b2, o2 + i, none⟩ = some (.slice (es.getD i (none, 0, 0)).1 (es.getD i (none, 0, 0)).2.1 (es.getD i (none, 0, 0)).2.2)) := hide (fun W hW => by have := (HD.out.at_.ext hW).cellK hlt (none, 0, 0) 0 _ rfl; simpa using this)
            generalize (es.getD i (none, 0, 0)).1 = dA at *
            generalize (es.getD i (none, 0, 0)).2.1 = dn at *
            generalize (es.getD i (none, 0, 0)).2.2 = dc at *
            generalize hh1 : hu.set i (A7, n7_, c7) = hu1 at *
            generalize hpl1 : K0.pl.set i (K0.pl.getD i [] ++ [x]) = pl1 at *
            clear hh1
            go_wp2_with fail
            go_loopw [12, 17] (fun r12 rq wx => ∃ (q : Nat), q ≤ e - P ∧ rq = .int .i64 (q : Int) ∧ Hid (LaM w0 wx gp m hu1 pl1 [(gt, TV0.set i (szN (sm.take (P + q)) : Int))] r12 (K0.out ++ pcB dd (szN (sm.take P)) (szN (sm.take (P + q))))) ∧ Hid (Cel wx gp gt cg r (.int .i64 ((e - P : Nat) : Int)) r12)) (fun _ rq _ => e - P - (intOf rq).toNat)
            case atStart => exact ⟨0, by omega, rfl, hide (by rw [Nat.add_zero, pcB_nil, List.append_nil, ← HTA1.out, set_self (by rw [HTL2.out]; exact hlt)]; exact L8.out), CE8⟩
            case round =>
              clear L8 CE8
              obtain ⟨q, hq, rfl, HM, HCE⟩ := hrel
              have cC : wr.cell? ⟨cg, r, none⟩ = some (.int .i64 ((e - P : Nat) : Int)) := HCE.out.cell
              by_cases hql : q < e - P
              · have x1 : wr.cell? ⟨w.heap.size, 1, none⟩ = some (.slice (some ⟨b, o, none⟩) m c) := HM.out.ext.cell (X0.out.cell 1)
                have hEW := Ext.trans E0.out HM.out.ext
                have a2 := HA2.out _ hEW
                obtain ⟨sb, so, rfl, _⟩ := HS.out.addr (by omega)
                have b3 := (HS.out.ext hEW).cellK (k := P + q) (by omega) dS 3 _ rfl
                have hsz := HSZ.out.1 (P + q) (by omega)
                have hTQ := szN_take (l := sm) (k := P + q) (by omega)
                have hse := szN_le sm (P + q + 1)
                have hmo := szN_mono sm (j := P) (k := P + q) (by omega)
                have hds := HD2.out
                have hdl := HD1.out.len
                have hbe := szN_bd HSZ.out.1 HSZ.out.2 (P + q + 1)
                have HCL2 : Hid (∀ (W : World) hu' pl' v' out', LaM w0 W gp m hu' pl' [(gt, TV0.set i (szN (sm.take (P + q)) : Int))] v' out' → W.cell? ⟨b2, o2 + i, none⟩ = some (.slice dA dn dc) ∧ W.cell? ⟨gt, i, none⟩ = some (.int .i64 (szN (sm.take (P + q)) : Int))) := hide (fun W hu' pl' v' out' hL => ⟨HDC.out _ (Ext.trans E0.out hL.ext), by have := hL.num (j := 0) (by simp) hlt; rw [show ([(gt, TV0.set i (szN (sm.take (P + q)) : Int))] : List (Nat × List Int)).getD 0 dI = (gt, TV0.set i (szN (sm.take (P + q)) : Int)) from rfl] at this; rw [set_at (by rw [HTL2.out]; exact hlt)] at this; exact this⟩)
                have HPQ := hide (show P + q + 1 = P + (q + 1) by omega)
                have hlg : (((sm.getD (P + q) dS).size.toNat : Nat) : Int) = (sm.getD (P + q) dS).size := by omega
                generalize (sm.getD (P + q) dS).size = lg at *
                rw [HPQ.out] at hTQ hse hbe
                generalize szN (sm.take P) = tP at *
                generalize szN (sm.take (P + q)) = tq at *
                generalize hT1_ : szN (sm.take (P + (q + 1))) = tq1 at *
                have HTQ1 := hide hT1_
                clear hT1_
                have hle := HD1.out.le
                obtain ⟨A4, hr4, ha4⟩ := HD1.out.range_ (P := Try.prog) Try.underlying26 (fun _ => by kernel_rfl) (k := tq) (m := tq1) (by omega) (by omega) (tq : Int) (tq1 : Int) rfl rfl
                have HA4 : Hid (∀ W, Ext w W → At W 1 e8 A4 (tq1 - tq) (dc - tq) (pcB dd tq tq1)) := hide (fun W hW => ha4 W (HD1.out.ext hW))
                have hpl : (K0.out ++ pcB dd tP tq).length = K0.out.length + (tq - tP) := by rw [List.length_append, pcB_len hmo (by omega)]
                have hT1 := T1.out ((tq - tP) + (tq1 - tq)) (by omega)
                rw [← Nat.add_assoc, ← hpl] at hT1
                have U1 := hide hT1.1
                have U2 := hide hT1.2
                have U3 : Hid (w0.heap.size ≤ wr.drew.heap.size) := hide HM.out.ext.size
                have HJ : Hid ((K0.out ++ pcB dd tP tq) ++ pcB dd tq tq1 = K0.out ++ pcB dd tP tq1) := hide (by rw [List.append_assoc, pcB_join hmo (by omega)])
                have k2 : IntKind.i64.wrap ((P : Int) + (q : Int)) = ((P + q : Nat) : Int) := by rw [IntKind.wrap_i64]; omega
                have k3 : ((P + q : Nat) : Int) < (sn : Int) := by omega
                have k4 : (0 : Int) ≤ ((P + q : Nat) : Int) := by omega
                have k5 : (q : Int) < ((e - P : Nat) : Int) := by omega
                have k6 : (0 : Int) ≤ (tq : Int) := by omega
                have k7 : (tq : Int) ≤ (tq1 : Int) := by omega
                have k8 : IntKind.i64.wrap ((tq : Int) + lg) = (tq1 : Int) := by rw [IntKind.wrap_i64]; omega
                have i8q : IntKind.i64.wrap ((q : Int) + 1) = (q : Int) + 1 := by rw [IntKind.wrap_i64]; omega
                have HQE : Hid (q + 1 ≤ e - P) := hide hql
                have HSM : Hid (e - P - (q + 1) < e - P - q) := hide (by omega)
                clear hsz hTQ hse hmo hds hdl hbe hlg hle ha4 hpl hT1 hEW
                go_upto_region 19 with (fail)
                refine gen_wpC fun w8 h8 => ?_
                have M8 : Hid (LaM w0 w8 gp m hu1 pl1 [(gt, TV0.set i (tq : Int))] _ (K0.out ++ pcB dd tP tq)) := hide (by rw [h8]; exact HM.out)
                have C8 : Hid (Cel w8 gp gt cg r (.int .i64 ((e - P : Nat) : Int)) _) := hide (by rw [h8]; exact HCE.out)
                have U3 : Hid (w0.heap.size ≤ w8.drew.heap.size) := hide M8.out.ext.size
                clear h8 HM HCE x1 a2 b3 cC
                obtain ⟨d0, d1⟩ := HCL2.out _ _ _ _ _ M8.out
                obtain ⟨d2, d3⟩ := HCL2.out _ _ _ _ _ (M8.out.extW (Ext.drew _))
                go_region_held3 (fun w' => w'.cell? ⟨b2, o2 + i, none⟩ = some (.slice dA dn dc) ∧ w'.cell? ⟨gt, i, none⟩ = some (.int .i64 (tq : Int))) (first | go_keep | exact ⟨d2, d3⟩ | exact HCL2.out _ _ _ _ _ L9.out) (first
                  | ((refine step_append_at rfl (.tmp 85) (.tmp 100) 26 rfl w0.heap.size 5 u0_ _ 1 Try.underlying26 hu0 hv0 hv1 hv2 rfl (by omega) len_e8 one_e8 _ _ (by simp [Act.eval]) (M8.out.out_.ext (Ext.drew _)) A4 (tq1 - tq) (dc - tq) (pcB dd tq tq1) (by simp [Act.eval]) (HA4.out _ (Ext.trans E0.out (Ext.trans M8.out.ext (Ext.drew _)))) U1.out U2.out U3.out ?_); intro v9 w9 o9 g9 _ r9; have L9 := hide (M8.out.appOut (Ext.drew _) o9 g9 r9); have C9 := hide ((C8.out.ext (Ext.drew _)).out g9 r9); clear o9 g9 r9))
                have f9 : w9.frozen? ⟨gt, i, none⟩ = false := L9.out.frS (j := 0) (by simp) i
                have c9 : w9.cell? ⟨gt, i, none⟩ = some (.int .i64 (tq : Int)) := (HCL2.out _ _ _ _ _ L9.out).2
                go_upto_region 17 with (fail)
                refine gen_wpC fun w10 h10 => ?_
                have L10 := hide (show LaM w0 w10 gp m _ _ [(gt, TV0.set i (tq1 : Int))] _ (K0.out ++ pcB dd tP tq1) by rw [h10, ← HJ.out, ← set_twice (y := (tq1 : Int)) (x := (tq : Int))]; exact L9.out.setS (j := 0) (by simp) i (tq1 : Int))
                have C10 := hide (show Cel w10 gp gt cg r (.int .i64 ((e - P : Nat) : Int)) _ by rw [h10]; exact C9.out.set_ (o := gt) (i := i) (x := .int .i64 (tq1 : Int)) (.inr rfl))
                clear h10 f9 c9 L9 C9
                go_wp2_with fail
                exact ⟨⟨q + 1, HQE.out, by go_num, hide (by rw [HTQ1.out]; exact L10.out), C10⟩, HSM.out⟩
              · obtain rfl : q = e - P := by omega
                have HPE : Hid (P + (e - P) = e) := hide (by omega)
                rw [HPE.out] at HM
                have LM := hide HM.out
                go_wp2_with fail
                exact ⟨⟨i + 1, _, by omega, by go_num, by rw [HM1.out, HM1_.out], hide (by rw [HK1.out, HTV1.out, HL1.out, ← HT1.out]; exact LM.out)⟩, by simp [intOf]; omega⟩
        · obtain rfl : i = m := by omega
          have LE := hide HK.out
          have hmf := HMF.out r
          have HM5 := hide hmf
          have HNE : Hid (moB T ch r i = false → ∀ k, k < i → (T.getD k default).smp.length ≤ (r + 1) * ch) := hide (fun hb k hk => Nat.le_trans (moB_false hb k hk) (by rw [Nat.succ_mul]; omega))
          have HLR : Hid (layK T D ch fr r (layR T D ch fr r) i = layR T D ch fr (r + 1)) := hide (by rw [layR, HTL.out])
          have x1 : wr.cell? ⟨w.heap.size, 1, none⟩ = some (.slice A i c) := HK.out.ext.cell (X0.out.cell 1)
          clear hmf
          go_wp2_with fail
          exact ⟨⟨r + 1, _, hu, by go_num, rfl, by omega, fun hb => by have := HM5.out hb; omega, HNE, hide (by rw [← HLR.out, ← tknV_round]; exact LE.out)⟩, mesR_lt hr5⟩
end Go.Proofs.Ytlonhkjplijlcaa
