/- Proved: for every table BoxTablesMatchSpec returns true: CheckTable, Expand and TableBytes of the program and of the document agree. Conditions: none. -/
import Derived.Test.YtkdmfkpkelnheaaTbyP
import Derived.Test.YtkdmfkpkelnheaaTabC
import Derived.Test.YtkdmfkpkelnheaaOpenS
import Derived.Test.YtkdmfkpkelnheaaOpens2
import Derived.Test.YtkdmfkpkelnheaaLawG
import Derived.Test.YtkdmfkpkelnheaaRtA
import Derived.Test.YtkdmfkpkelnheaaExpT
import Derived.Test.YtkdmfkpkelnheaaTbxT
import Derived.Test.YtkdmfkpkelnheaaSamB
import Derived.Test.YtkdmfkpkelnheaaBoxE
namespace Go.Proofs.Ytkdmfkpkelnheaa
open Go.ChangeShapes Go.WideShapes Go.ChangeAt Go.RowKit Go.Joins Go.Deep
section
variable {H : Type} {enc : TypeId × Value → H} {W : World} {base : Nat}
theorem fldPairs {t e : TypeId} {f0 f1 : Field} (hts : Try.prog.underlying t = some (.slice e)) (hte : Try.prog.underlying e = some (.struct #[f0, f1])) (hone : oneCellFields Try.prog #[f0, f1] = true) (hC : Try.prog.cellsOf e = 2)
    (h0 : Try.prog.underlying f0.type = some (.int .i64)) (h1 : Try.prog.underlying f1.type = some (.int .i64)) {n : Nat} {v : Value} {y : DataW H × List MemPlace}
    (h : DataW.trod enc Try.prog W 0 (fun _ => true) true n t [v] = some y) : ∃ A m c l, v = .slice A m c ∧ At W 2 e2 A m c l ∧ Takes y.1 c := by
  obtain ⟨A, m, c, rfl⟩ := fldSlice hts h
  obtain ⟨d, p⟩ := y
  obtain ⟨l, h2, _, h3⟩ := open_structsQ (good := ok2) (en := e2) (sz := 2) hts hte hone hC rfl (by omega) (fun cs n hl hd => by
    obtain ⟨v0, y0, g0, t0⟩ := hd 0 f0 rfl
    obtain ⟨v1, y1, g1, t1⟩ := hd 1 f1 rfl
    obtain ⟨x0, rfl, b0⟩ := fldInt h0 t0
    obtain ⟨x1, rfl, b1⟩ := fldInt h1 t1
    match cs, hl with
    | [c0, c1], _ =>
      simp at g0 g1
      exact ⟨(x0, x1), ⟨b0, b1⟩, by rw [g0, g1]⟩) h
  exact ⟨A, m, c, l, rfl, h2, h3⟩
theorem fldTab {t : TypeId} {n c : Nat} {v : Value} {cs rest : List Value} {xs : List (DataW H × List MemPlace)} {i : Nat} (hc : Try.prog.cellsOf t = 1) (hd : cs.drop c = v :: rest) {y : DataW H × List MemPlace} (hx : xs[i]? = some y)
    (h : DataW.trod enc Try.prog W 0 (fun _ => true) true n t ((cs.drop c).take (Try.prog.cellsOf t)) = xs[i]?) : DataW.trod enc Try.prog W 0 (fun _ => true) true n t [v] = some y := by
  rw [hc, hd, hx] at h; exact h
theorem weights_of {ts : List TypeId} {ds : List (DataW H)} (hsz : (DataW.weightsEach Try.prog ts ds).all (· ≤ reachBytes) = true) (j : Nat) {t : TypeId} (ht : ts[j]? = some t) {d : DataW H} (hd : ds[j]? = some d) :
    (d.weights Try.prog t).all (· ≤ reachBytes) = true := by
  rw [List.all_eq_true] at hsz ⊢
  intro x hx
  exact hsz x (DataW.weights_mem_each ht hd x hx)
set_option maxRecDepth 100000 in
set_option maxHeartbeats 1000000 in
theorem open_table {v : Value} {d : DataW H} {p : List MemPlace} (hv : Value.okWide Try.prog W .any base 27 v) (h : DataW.Trod enc Try.prog W 0 (fun _ => true) true 27 v d p) (hs : (d.weights Try.prog 27).all (· ≤ reachBytes) = true) :
    ∃ t sA sn sc hA hn hc zA zn zc kA kn kc cA cn cc pA pn pc, v = .agg #[.int .i64 (Tab.start t), .slice sA sn sc, .slice hA hn hc, .slice zA zn zc, .slice kA kn kc, .slice cA cn cc, .slice pA pn pc] ∧ TabAt W sA sn sc hA hn hc zA zn zc kA kn kc cA cn cc pA pn pc t ∧ TabSz sn hn zn kn cn pn := by
  obtain ⟨cs, rfl, hsz⟩ := okWide_struct Try.underlying27 hv
  obtain ⟨l⟩ := cs
  have hC : Try.prog.cellsOf 27 = 7 := by kernel_rfl
  have C0 : Try.prog.cellsOf 3 = 1 := by kernel_rfl
  have C1 : Try.prog.cellsOf 24 = 1 := by kernel_rfl
  have C2 : Try.prog.cellsOf 23 = 1 := by kernel_rfl
  have C3 : Try.prog.cellsOf 25 = 1 := by kernel_rfl
  have B1 : Try.prog.bytesOf 58 = 16 := by kernel_rfl
  have B2 : Try.prog.bytesOf 3 = 8 := by kernel_rfl
  have B3 : Try.prog.bytesOf 51 = 16 := by kernel_rfl
  match l, hsz.trans hC with
  | [c0, c1, c2, c3, c4, c5, c6], _ =>
    obtain ⟨fuel, hf⟩ := h
    obtain ⟨xs, n, _, hx, _, hlen, hg⟩ := DataW.trod_struct Try.underlying27 hf
    match xs, hlen with
    | [y0, y1, y2, y3, y4, y5, y6], _ =>
      have hd : d = .agg [y0.1, y1.1, y2.1, y3.1, y4.1, y5.1, y6.1] := (congrArg Prod.fst hx)
      have hw : (DataW.weightsEach Try.prog [3, 24, 24, 23, 23, 25, 23] [y0.1, y1.1, y2.1, y3.1, y4.1, y5.1, y6.1]).all (· ≤ reachBytes) = true := by
        rw [hd] at hs
        simp only [DataW.weights, Try.underlying27] at hs
        exact hs
      obtain ⟨st, rfl, _⟩ := fldInt Try.underlying3 (fldTab (i := 0) (c := 0) C0 rfl rfl (hg 0 _ rfl))
      obtain ⟨sA, sn, sc, S, rfl, hS, k1⟩ := fldPairs Try.underlying24 Try.underlying58 (by kernel_rfl) (by kernel_rfl) Try.underlying3 Try.underlying3 (fldTab (i := 1) (c := 1) C1 rfl rfl (hg 1 _ rfl))
      obtain ⟨hA, hn, hc, SH, rfl, hSH, k2⟩ := fldPairs Try.underlying24 Try.underlying58 (by kernel_rfl) (by kernel_rfl) Try.underlying3 Try.underlying3 (fldTab (i := 2) (c := 2) C1 rfl rfl (hg 2 _ rfl))
      obtain ⟨zA, zn, zc, Z, rfl, hZ, _, k3⟩ := fldIntsP Try.underlying23 Try.underlying3 C0 (fldTab (i := 3) (c := 3) C2 rfl rfl (hg 3 _ rfl))
      obtain ⟨kA, kn, kc, K, rfl, hK, _, k4⟩ := fldIntsP Try.underlying23 Try.underlying3 C0 (fldTab (i := 4) (c := 4) C2 rfl rfl (hg 4 _ rfl))
      obtain ⟨cA, cn, cc, C, rfl, hCC, k5⟩ := fldPairs Try.underlying25 Try.underlying51 (by kernel_rfl) (by kernel_rfl) Try.underlying3 Try.underlying3 (fldTab (i := 5) (c := 5) C3 rfl rfl (hg 5 _ rfl))
      obtain ⟨pA, pn, pc, PP, rfl, hP, _, k6⟩ := fldIntsP Try.underlying23 Try.underlying3 C0 (fldTab (i := 6) (c := 6) C2 rfl rfl (hg 6 _ rfl))
      have b1 := reach_of Try.underlying24 hw 1 rfl rfl k1 hS.le
      have b2 := reach_of Try.underlying24 hw 2 rfl rfl k2 hSH.le
      have b3 := reach_of Try.underlying23 hw 3 rfl rfl k3 hZ.le
      have b4 := reach_of Try.underlying23 hw 4 rfl rfl k4 hK.le
      have b5 := reach_of Try.underlying25 hw 5 rfl rfl k5 hCC.le
      have b6 := reach_of Try.underlying23 hw 6 rfl rfl k6 hP.le
      rw [B1] at b1 b2
      rw [B2] at b3 b4 b6
      rw [B3] at b5
      exact ⟨⟨st, S, SH, Z, K, kA.isNone, C, PP⟩, sA, sn, sc, hA, hn, hc, zA, zn, zc, kA, kn, kc, cA, cn, cc, pA, pn, pc, rfl, ⟨hS, hSH, hZ, hK, by simp, hCC, hP⟩, ⟨by omega, by omega, by omega, by omega, by omega, by omega⟩⟩
end
end Go.Proofs.Ytkdmfkpkelnheaa

namespace Go.Proofs.Ytkdmfkpkelnheaa
open Go.RowKit
set_option maxHeartbeats 1000000 in
/-- Two slices that read as one list. -/
theorem intsEq_true {A1 A2 : Option Addr} {n1 c1 n2 c2 : Nat} {l : List Int} {w : World} (h1 : At w 1 e64 A1 n1 c1 l) (h2 : At w 1 e64 A2 n2 c2 l) :
    Calls Try.prog 28 #[.slice A1 n1 c1, .slice A2 n2 c2] w fun e w' => e = .returned (.bool true) ∧ Ext w w' := by
  obtain rfl : n1 = n2 := h1.len.symm.trans h2.len
  have hb := h1.bound
  have H1 := hide h1; have H2 := hide h2
  clear h1 h2
  go_enter Try.func28, Try.ntmps28
  go_wp2_with fail
  go_loopw [13] (fun ri wr => ∃ k : Nat, k ≤ n1 ∧ ri = .int .i64 k ∧ Hid (Ext w wr)) (fun i _ => n1 - (intOf i).toNat)
  case atStart => exact ⟨0, by omega, rfl, hide (Ext.refl _)⟩
  case round =>
    obtain ⟨k, hk, rfl, HX⟩ := hrel
    by_cases hlt : k < n1
    · obtain ⟨b, off, rfl, _⟩ := H1.out.addr (by omega)
      obtain ⟨b2, off2, rfl, _⟩ := H2.out.addr (by omega)
      have a1 := (H1.out.ext HX.out).num hlt
      have a2 := (H2.out.ext HX.out).num hlt
      generalize l.getD k 0 = y at *
      have i1 : (k : Int) < (n1 : Int) := by omega
      have i0 : (0 : Int) ≤ (k : Int) := by omega
      go_wp2_with fail
      go_quiet (fail)
      go_wp2
      go_roundw
      case rel => exact ⟨k + 1, by omega, by go_num, below_drewN HX.out _⟩
      case measure => simp [intOf]; omega
    · have hkn : k = n1 := by omega
      clear hkn
      go_wp2
      go_ret
      exact ⟨rfl, HX.out⟩
set_option maxHeartbeats 1000000 in
theorem runsEq_true {A1 A2 : Option Addr} {n1 c1 n2 c2 : Nat} {l : List (Int × Int)} {w : World} (h1 : At w 2 e2 A1 n1 c1 l) (h2 : At w 2 e2 A2 n2 c2 l) :
    Calls Try.prog 27 #[.slice A1 n1 c1, .slice A2 n2 c2] w fun e w' => e = .returned (.bool true) ∧ Ext w w' := by
  obtain rfl : n1 = n2 := h1.len.symm.trans h2.len
  have hb := h1.bound
  have H1 := hide h1; have H2 := hide h2
  clear h1 h2
  go_enter Try.func27, Try.ntmps27
  go_wp2_with fail
  go_loopw [13] (fun ri wr => ∃ k : Nat, k ≤ n1 ∧ ri = .int .i64 k ∧ Hid (Ext w wr)) (fun i _ => n1 - (intOf i).toNat)
  case atStart => exact ⟨0, by omega, rfl, hide (Ext.refl _)⟩
  case round =>
    obtain ⟨k, hk, rfl, HX⟩ := hrel
    by_cases hlt : k < n1
    · obtain ⟨b, off, rfl, _⟩ := H1.out.addr (by omega)
      obtain ⟨b2, off2, rfl, _⟩ := H2.out.addr (by omega)
      obtain ⟨a1, a2⟩ := (H1.out.ext HX.out).pair hlt
      obtain ⟨a3, a4⟩ := (H2.out.ext HX.out).pair hlt
      generalize (l.getD k (0, 0)).1 = y at *
      generalize (l.getD k (0, 0)).2 = z at *
      have i1 : (k : Int) < (n1 : Int) := by omega
      have i0 : (0 : Int) ≤ (k : Int) := by omega
      go_wp2_with fail
      go_quiet (fail)
      go_wp2
      go_roundw
      case rel => exact ⟨k + 1, by omega, by go_num, below_drewN HX.out _⟩
      case measure => simp [intOf]; omega
    · have hkn : k = n1 := by omega
      clear hkn
      go_wp2
      go_ret
      exact ⟨rfl, HX.out⟩
set_option maxHeartbeats 1000000 in
theorem chunksEq_true {A1 A2 : Option Addr} {n1 c1 n2 c2 : Nat} {l : List (Int × Int)} {w : World} (h1 : At w 2 e2 A1 n1 c1 l) (h2 : At w 2 e2 A2 n2 c2 l) :
    Calls Try.prog 29 #[.slice A1 n1 c1, .slice A2 n2 c2] w fun e w' => e = .returned (.bool true) ∧ Ext w w' := by
  obtain rfl : n1 = n2 := h1.len.symm.trans h2.len
  have hb := h1.bound
  have H1 := hide h1; have H2 := hide h2
  clear h1 h2
  go_enter Try.func29, Try.ntmps29
  go_wp2_with fail
  go_loopw [13] (fun ri wr => ∃ k : Nat, k ≤ n1 ∧ ri = .int .i64 k ∧ Hid (Ext w wr)) (fun i _ => n1 - (intOf i).toNat)
  case atStart => exact ⟨0, by omega, rfl, hide (Ext.refl _)⟩
  case round =>
    obtain ⟨k, hk, rfl, HX⟩ := hrel
    by_cases hlt : k < n1
    · obtain ⟨b, off, rfl, _⟩ := H1.out.addr (by omega)
      obtain ⟨b2, off2, rfl, _⟩ := H2.out.addr (by omega)
      obtain ⟨a1, a2⟩ := (H1.out.ext HX.out).pair hlt
      obtain ⟨a3, a4⟩ := (H2.out.ext HX.out).pair hlt
      generalize (l.getD k (0, 0)).1 = y at *
      generalize (l.getD k (0, 0)).2 = z at *
      have i1 : (k : Int) < (n1 : Int) := by omega
      have i0 : (0 : Int) ≤ (k : Int) := by omega
      go_wp2_with fail
      go_quiet (fail)
      go_wp2
      go_roundw
      case rel => exact ⟨k + 1, by omega, by go_num, below_drewN HX.out _⟩
      case measure => simp [intOf]; omega
    · have hkn : k = n1 := by omega
      clear hkn
      go_wp2
      go_ret
      exact ⟨rfl, HX.out⟩
set_option maxHeartbeats 1000000 in
theorem spotsEq_true {A1 A2 : Option Addr} {n1 c1 n2 c2 : Nat} {l : List (Int × Int)} {w : World} (h1 : At w 2 e2 A1 n1 c1 l) (h2 : At w 2 e2 A2 n2 c2 l) :
    Calls Try.prog 19 #[.slice A1 n1 c1, .slice A2 n2 c2] w fun e w' => e = .returned (.bool true) ∧ Ext w w' := by
  obtain rfl : n1 = n2 := h1.len.symm.trans h2.len
  have hb := h1.bound
  have H1 := hide h1; have H2 := hide h2
  clear h1 h2
  go_enter Try.func19, Try.ntmps19
  go_wp2_with fail
  go_loopw [13] (fun ri wr => ∃ k : Nat, k ≤ n1 ∧ ri = .int .i64 k ∧ Hid (Ext w wr)) (fun i _ => n1 - (intOf i).toNat)
  case atStart => exact ⟨0, by omega, rfl, hide (Ext.refl _)⟩
  case round =>
    obtain ⟨k, hk, rfl, HX⟩ := hrel
    by_cases hlt : k < n1
    · obtain ⟨b, off, rfl, _⟩ := H1.out.addr (by omega)
      obtain ⟨b2, off2, rfl, _⟩ := H2.out.addr (by omega)
      obtain ⟨a1, a2⟩ := (H1.out.ext HX.out).pair hlt
      obtain ⟨a3, a4⟩ := (H2.out.ext HX.out).pair hlt
      generalize (l.getD k (0, 0)).1 = y at *
      generalize (l.getD k (0, 0)).2 = z at *
      have i1 : (k : Int) < (n1 : Int) := by omega
      have i0 : (0 : Int) ≤ (k : Int) := by omega
      go_wp2_with fail
      go_quiet (fail)
      go_wp2
      go_roundw
      case rel => exact ⟨k + 1, by omega, by go_num, below_drewN HX.out _⟩
      case measure => simp [intOf]; omega
    · have hkn : k = n1 := by omega
      clear hkn
      go_wp2
      go_ret
      exact ⟨rfl, HX.out⟩
set_option linter.unusedVariables false in
set_option maxRecDepth 100000 in
set_option maxHeartbeats 4000000 in
/-- Two tables that read alike. -/
theorem sameTab_any {v1 v2 : Value} {t : Tab} {w : World} (h1 : TbV w v1 t) (h2 : TbV w v2 t) :
    Calls Try.prog 10 #[v1, v2] w fun e w' => e = .returned (.bool true) ∧ Ext w w' := by
  obtain ⟨sA1, sn1, sc1, hA1, hn1, hc1, zA1, zn1, zc1, kA1, kn1, kc1, cA1, cn1, cc1, pA1, pn1, pc1, rfl, t1⟩ := h1
  obtain ⟨sA2, sn2, sc2, hA2, hn2, hc2, zA2, zn2, zc2, kA2, kn2, kc2, cA2, cn2, cc2, pA2, pn2, pc2, rfl, t2⟩ := h2
  have EA : Hid (Ext w ((w.alloc (.cells #[.int .i64 t.start, .slice sA1 sn1 sc1, .slice hA1 hn1 hc1, .slice zA1 zn1 zc1, .slice kA1 kn1 kc1, .slice cA1 cn1 cc1, .slice pA1 pn1 pc1] 27)).alloc (.cells #[.int .i64 t.start, .slice sA2 sn2 sc2, .slice hA2 hn2 hc2, .slice zA2 zn2 zc2, .slice kA2 kn2 kc2, .slice cA2 cn2 cc2, .slice pA2 pn2 pc2] 27))) := hide (Ext.trans (Ext.alloc _ _) (Ext.alloc _ _))
  have HQ1 := hide (fun (W : World) (hW : Ext w W) => runsEq_true (t1.steps.ext hW) (t2.steps.ext hW))
  have HQ2 := hide (fun (W : World) (hW : Ext w W) => runsEq_true (t1.shifts.ext hW) (t2.shifts.ext hW))
  have HQ3 := hide (fun (W : World) (hW : Ext w W) => intsEq_true (t1.sizes.ext hW) (t2.sizes.ext hW))
  have HQ4 := hide (fun (W : World) (hW : Ext w W) => intsEq_true (t1.keys.ext hW) (t2.keys.ext hW))
  have HQ5 := hide (fun (W : World) (hW : Ext w W) => chunksEq_true (t1.chunks.ext hW) (t2.chunks.ext hW))
  have HQ6 := hide (fun (W : World) (hW : Ext w W) => intsEq_true (t1.places.ext hW) (t2.places.ext hW))
  have hkk : kA1.isNone = kA2.isNone := by
    have h1 := t1.nok
    have h2 := t2.nok
    rw [Bool.eq_iff_iff, Option.isNone_iff_eq_none, Option.isNone_iff_eq_none, h1, h2]
  have e1 := fun (W : World) => Lib.run_eql_slice_nil (P := Try.prog) W 23 3 kA1 kn1 kc1 0 0 Try.underlying23
  have e2 := fun (W : World) => Lib.run_eql_slice_nil (P := Try.prog) W 23 3 kA2 kn2 kc2 0 0 Try.underlying23
  rw [← hkk] at e2
  generalize kA1.isNone = kb at *
  have dk : (kb == kb) = true := by simp
  have dt : (t.start == t.start) = true := by simp
  have X1 := hide ((Blk.new w 27 #[.int .i64 t.start, .slice sA1 sn1 sc1, .slice hA1 hn1 hc1, .slice zA1 zn1 zc1, .slice kA1 kn1 kc1, .slice cA1 cn1 cc1, .slice pA1 pn1 pc1]).alloc (.cells #[.int .i64 t.start, .slice sA2 sn2 sc2, .slice hA2 hn2 hc2, .slice zA2 zn2 zc2, .slice kA2 kn2 kc2, .slice cA2 cn2 cc2, .slice pA2 pn2 pc2] 27))
  have X2 : Hid (Blk ((w.alloc (.cells #[.int .i64 t.start, .slice sA1 sn1 sc1, .slice hA1 hn1 hc1, .slice zA1 zn1 zc1, .slice kA1 kn1 kc1, .slice cA1 cn1 cc1, .slice pA1 pn1 pc1] 27)).alloc (.cells #[.int .i64 t.start, .slice sA2 sn2 sc2, .slice hA2 hn2 hc2, .slice zA2 zn2 zc2, .slice kA2 kn2 kc2, .slice cA2 cn2 cc2, .slice pA2 pn2 pc2] 27)) (w.heap.size + 1) 27 #[.int .i64 t.start, .slice sA2 sn2 sc2, .slice hA2 hn2 hc2, .slice zA2 zn2 zc2, .slice kA2 kn2 kc2, .slice cA2 cn2 cc2, .slice pA2 pn2 pc2]) := hide (by
    have := Blk.new (w.alloc (.cells #[.int .i64 t.start, .slice sA1 sn1 sc1, .slice hA1 hn1 hc1, .slice zA1 zn1 zc1, .slice kA1 kn1 kc1, .slice cA1 cn1 cc1, .slice pA1 pn1 pc1] 27)) 27 #[.int .i64 t.start, .slice sA2 sn2 sc2, .slice hA2 hn2 hc2, .slice zA2 zn2 zc2, .slice kA2 kn2 kc2, .slice cA2 cn2 cc2, .slice pA2 pn2 pc2]
    rw [World.size_alloc] at this
    exact this)
  generalize t.start = st at *
  clear t1 t2 hkk
  go_enter Try.func10, Try.ntmps10
  go_upto_region 1 with (fail)
  refine gen_wpC fun w0 h0 => ?_
  have E0 : Hid (Ext w w0) := hide (by rw [h0]; exact EA.out)
  have Y0 : Hid (Blk w0 w.heap.size 27 #[.int .i64 st, .slice sA1 sn1 sc1, .slice hA1 hn1 hc1, .slice zA1 zn1 zc1, .slice kA1 kn1 kc1, .slice cA1 cn1 cc1, .slice pA1 pn1 pc1]) := hide (by rw [h0]; exact X1.out)
  have Z0 : Hid (Blk w0 (w.heap.size + 1) 27 #[.int .i64 st, .slice sA2 sn2 sc2, .slice hA2 hn2 hc2, .slice zA2 zn2 zc2, .slice kA2 kn2 kc2, .slice cA2 cn2 cc2, .slice pA2 pn2 pc2]) := hide (by rw [h0]; exact X2.out)
  clear h0 EA X1 X2
  have y0 : w0.cell? ⟨w.heap.size, 0, none⟩ = some (.int .i64 st) := Y0.out.cell 0
  have z0 : w0.cell? ⟨w.heap.size + 1, 0, none⟩ = some (.int .i64 st) := Z0.out.cell 0
  have y1 : w0.cell? ⟨w.heap.size, 1, none⟩ = some (.slice sA1 sn1 sc1) := Y0.out.cell 1
  have z1 : w0.cell? ⟨w.heap.size + 1, 1, none⟩ = some (.slice sA2 sn2 sc2) := Z0.out.cell 1
  go_wp2_with fail
  with_reducible refine (HQ1.out _ E0.out).mono ?_
  rintro e w1 ⟨rfl, e1_⟩
  have Y1 := hide (Y0.out.ext e1_)
  have Z1 := hide (Z0.out.ext e1_)
  have E1 := hide (Ext.trans E0.out e1_)
  clear e1_
  have y2 : w1.cell? ⟨w.heap.size, 2, none⟩ = some (.slice hA1 hn1 hc1) := Y1.out.cell 2
  have z2 : w1.cell? ⟨w.heap.size + 1, 2, none⟩ = some (.slice hA2 hn2 hc2) := Z1.out.cell 2
  go_wp2_with fail
  with_reducible refine (HQ2.out _ E1.out).mono ?_
  rintro e w2 ⟨rfl, e2_⟩
  have Y2 := hide (Y1.out.ext e2_)
  have Z2 := hide (Z1.out.ext e2_)
  have E2 := hide (Ext.trans E1.out e2_)
  clear e2_
  have y3 : w2.cell? ⟨w.heap.size, 3, none⟩ = some (.slice zA1 zn1 zc1) := Y2.out.cell 3
  have z3 : w2.cell? ⟨w.heap.size + 1, 3, none⟩ = some (.slice zA2 zn2 zc2) := Z2.out.cell 3
  go_wp2_with fail
  with_reducible refine (HQ3.out _ E2.out).mono ?_
  rintro e w3 ⟨rfl, e3⟩
  have Y3 := hide (Y2.out.ext e3)
  have Z3 := hide (Z2.out.ext e3)
  have E3 := hide (Ext.trans E2.out e3)
  clear e3
  have y4 : w3.cell? ⟨w.heap.size, 4, none⟩ = some (.slice kA1 kn1 kc1) := Y3.out.cell 4
  have z4 : w3.cell? ⟨w.heap.size + 1, 4, none⟩ = some (.slice kA2 kn2 kc2) := Z3.out.cell 4
  go_wp2_with fail
  with_reducible refine (HQ4.out _ E3.out).mono ?_
  rintro e w4 ⟨rfl, e4⟩
  have Y4 := hide (Y3.out.ext e4)
  have Z4 := hide (Z3.out.ext e4)
  have E4 := hide (Ext.trans E3.out e4)
  clear e4
  have y5 : w4.cell? ⟨w.heap.size, 5, none⟩ = some (.slice cA1 cn1 cc1) := Y4.out.cell 5
  have z5 : w4.cell? ⟨w.heap.size + 1, 5, none⟩ = some (.slice cA2 cn2 cc2) := Z4.out.cell 5
  go_wp2_with fail
  with_reducible refine (HQ5.out _ E4.out).mono ?_
  rintro e w5 ⟨rfl, e5⟩
  have Y5 := hide (Y4.out.ext e5)
  have Z5 := hide (Z4.out.ext e5)
  have E5 := hide (Ext.trans E4.out e5)
  clear e5
  have y6 : w5.cell? ⟨w.heap.size, 6, none⟩ = some (.slice pA1 pn1 pc1) := Y5.out.cell 6
  have z6 : w5.cell? ⟨w.heap.size + 1, 6, none⟩ = some (.slice pA2 pn2 pc2) := Z5.out.cell 6
  go_wp2_with fail
  with_reducible refine (HQ6.out _ E5.out).mono ?_
  rintro e w6 ⟨rfl, e6⟩
  have Y6 := hide (Y5.out.ext e6)
  have Z6 := hide (Z5.out.ext e6)
  have E6 := hide (Ext.trans E5.out e6)
  clear e6
  go_wp2_with fail
  go_ret
  exact ⟨rfl, E6.out⟩
end Go.Proofs.Ytkdmfkpkelnheaa
namespace Go.Proofs.Ytkdmfkpkelnheaa
open Go.ChangeShapes Go.WideShapes Go.ChangeAt Go.RowKit Go.Joins Go.Deep
/-- The cells of a table's box. -/
def TabS (t : Tab) (g : Nat) (sA : Option Addr) (sn sc : Nat) (hA : Option Addr) (hn hc : Nat) (zA : Option Addr) (zn zc : Nat) (kA : Option Addr) (kn kc : Nat) (cA : Option Addr) (cn cc : Nat) (pA : Option Addr) (pn pc : Nat) (W : World) : Prop :=
  W.cell? ⟨g, 0, none⟩ = some (.int .i64 t.start) ∧ W.cell? ⟨g, 1, none⟩ = some (.slice sA sn sc) ∧ W.cell? ⟨g, 2, none⟩ = some (.slice hA hn hc) ∧ W.cell? ⟨g, 3, none⟩ = some (.slice zA zn zc) ∧ W.cell? ⟨g, 4, none⟩ = some (.slice kA kn kc) ∧ W.cell? ⟨g, 5, none⟩ = some (.slice cA cn cc) ∧ W.cell? ⟨g, 6, none⟩ = some (.slice pA pn pc)
theorem TabS.ext {t : Tab} {g : Nat} {sA : Option Addr} {sn sc : Nat} {hA : Option Addr} {hn hc : Nat} {zA : Option Addr} {zn zc : Nat} {kA : Option Addr} {kn kc : Nat} {cA : Option Addr} {cn cc : Nat} {pA : Option Addr} {pn pc : Nat} {W W' : World} (h : TabS t g sA sn sc hA hn hc zA zn zc kA kn kc cA cn cc pA pn pc W) (he : Ext W W') : TabS t g sA sn sc hA hn hc zA zn zc kA kn kc cA cn cc pA pn pc W' :=
  ⟨he.cell h.1, he.cell h.2.1, he.cell h.2.2.1, he.cell h.2.2.2.1, he.cell h.2.2.2.2.1, he.cell h.2.2.2.2.2.1, he.cell h.2.2.2.2.2.2⟩
set_option linter.unusedVariables false in
set_option linter.unusedSimpArgs false in
set_option maxRecDepth 100000 in
set_option maxHeartbeats 8000000 in
theorem tabmatch_any {sA : Option Addr} {sn sc : Nat} {hA : Option Addr} {hn hc : Nat} {zA : Option Addr} {zn zc : Nat} {kA : Option Addr} {kn kc : Nat} {cA : Option Addr} {cn cc : Nat} {pA : Option Addr} {pn pc : Nat} {t : Tab} {w : World}
    (h : TabAt w sA sn sc hA hn hc zA zn zc kA kn kc cA cn cc pA pn pc t) (hz : TabSz sn hn zn kn cn pn) :
    Calls Try.prog 4 #[.agg #[.int .i64 t.start, .slice sA sn sc, .slice hA hn hc, .slice zA zn zc, .slice kA kn kc, .slice cA cn cc, .slice pA pn pc]] w fun e w' => e = .returned (.bool true) ∧ Ext w w' := by
  have E0 := hide (Ext.alloc w (.cells #[.int .i64 t.start, .slice sA sn sc, .slice hA hn hc, .slice zA zn zc, .slice kA kn kc, .slice cA cn cc, .slice pA pn pc] 27))
  have X0 := hide (Blk.new w 27 #[.int .i64 t.start, .slice sA sn sc, .slice hA hn hc, .slice zA zn zc, .slice kA kn kc, .slice cA cn cc, .slice pA pn pc])
  have HX := hide (fun (W : World) (hW : Ext w W) => keyExpand_any (h.ext hW) hz)
  have HY := hide (fun (W : World) (hW : Ext w W) => refExpand_any (h.ext hW) hz)
  have HB := hide (fun (W : World) (hW : Ext w W) => keyTabBytes_any (h.ext hW) hz)
  have HD := hide (fun (W : World) (hW : Ext w W) => refTabBytes_any (h.ext hW) hz)
  have HK1 := hide (fun (W : World) (hW : Ext w W) => checkTable_any (h.ext hW) rfl hz)
  have HK2 := hide (fun (W : World) (hW : Ext w W) => refCheckTable_any (h.ext hW) rfl hz)
  clear h
  generalize hLX : (if expF t = 0 then exS t else []) = LX
  generalize hLP : (if expF t = 0 then spS t else []) = LP
  have HLX := hide hLX
  have HLP := hide hLP
  clear hLX hLP
  go_enter Try.func4, Try.ntmps4
  go_wp2_with fail
  with_reducible refine (HX.out _ E0.out).mono ?_
  rintro e w1 ⟨A1, n1, c1, B1, m1, d1, rfl, a1, b1, e1⟩
  rw [HLX.out] at a1
  rw [HLP.out] at b1
  have AX := hide a1
  have AP := hide b1
  have E1 := hide (Ext.trans E0.out e1)
  have X1 := hide (X0.out.ext e1)
  clear a1 b1 e1 E0 X0 HX
  have y0 : w1.cell? ⟨w.heap.size, 0, none⟩ = some (.int .i64 t.start) := X1.out.cell 0
  have y1 : w1.cell? ⟨w.heap.size, 1, none⟩ = some (.slice sA sn sc) := X1.out.cell 1
  have y2 : w1.cell? ⟨w.heap.size, 2, none⟩ = some (.slice hA hn hc) := X1.out.cell 2
  have y3 : w1.cell? ⟨w.heap.size, 3, none⟩ = some (.slice zA zn zc) := X1.out.cell 3
  have y4 : w1.cell? ⟨w.heap.size, 4, none⟩ = some (.slice kA kn kc) := X1.out.cell 4
  have y5 : w1.cell? ⟨w.heap.size, 5, none⟩ = some (.slice cA cn cc) := X1.out.cell 5
  have y6 : w1.cell? ⟨w.heap.size, 6, none⟩ = some (.slice pA pn pc) := X1.out.cell 6
  go_wp2_with fail
  with_reducible refine (HY.out _ E1.out).mono ?_
  rintro e w2 ⟨A2, n2, c2, B2, m2, d2, rfl, a2, b2, e2⟩
  rw [HLX.out] at a2
  rw [HLP.out] at b2
  have AY := hide a2
  have AQ := hide b2
  have AX2 := hide (AX.out.ext e2)
  have AP2 := hide (AP.out.ext e2)
  have E2 := hide (Ext.trans E1.out e2)
  have X2 := hide (X1.out.ext e2)
  clear a2 b2 e2 E1 X1 HY AX AP y0 y1 y2 y3 y4 y5 y6
  have y0 : w2.cell? ⟨w.heap.size, 0, none⟩ = some (.int .i64 t.start) := X2.out.cell 0
  have y1 : w2.cell? ⟨w.heap.size, 1, none⟩ = some (.slice sA sn sc) := X2.out.cell 1
  have y2 : w2.cell? ⟨w.heap.size, 2, none⟩ = some (.slice hA hn hc) := X2.out.cell 2
  have y3 : w2.cell? ⟨w.heap.size, 3, none⟩ = some (.slice zA zn zc) := X2.out.cell 3
  have y4 : w2.cell? ⟨w.heap.size, 4, none⟩ = some (.slice kA kn kc) := X2.out.cell 4
  have y5 : w2.cell? ⟨w.heap.size, 5, none⟩ = some (.slice cA cn cc) := X2.out.cell 5
  have y6 : w2.cell? ⟨w.heap.size, 6, none⟩ = some (.slice pA pn pc) := X2.out.cell 6
  go_wp2_with fail
  with_reducible refine (HB.out _ E2.out).mono ?_
  rintro e w3 ⟨A3, n3, c3, rfl, a3, e3⟩
  have AB := hide a3
  have AX3 := hide (AX2.out.ext e3)
  have AP3 := hide (AP2.out.ext e3)
  have AY3 := hide (AY.out.ext e3)
  have AQ3 := hide (AQ.out.ext e3)
  have E3 := hide (Ext.trans E2.out e3)
  have X3 := hide (X2.out.ext e3)
  clear a3 e3 E2 X2 HB AX2 AP2 AY AQ y0 y1 y2 y3 y4 y5 y6
  have y0 : w3.cell? ⟨w.heap.size, 0, none⟩ = some (.int .i64 t.start) := X3.out.cell 0
  have y1 : w3.cell? ⟨w.heap.size, 1, none⟩ = some (.slice sA sn sc) := X3.out.cell 1
  have y2 : w3.cell? ⟨w.heap.size, 2, none⟩ = some (.slice hA hn hc) := X3.out.cell 2
  have y3 : w3.cell? ⟨w.heap.size, 3, none⟩ = some (.slice zA zn zc) := X3.out.cell 3
  have y4 : w3.cell? ⟨w.heap.size, 4, none⟩ = some (.slice kA kn kc) := X3.out.cell 4
  have y5 : w3.cell? ⟨w.heap.size, 5, none⟩ = some (.slice cA cn cc) := X3.out.cell 5
  have y6 : w3.cell? ⟨w.heap.size, 6, none⟩ = some (.slice pA pn pc) := X3.out.cell 6
  go_wp2_with fail
  with_reducible refine (HD.out _ E3.out).mono ?_
  rintro e w4 ⟨A4, n4, c4, rfl, a4, e4⟩
  have AD := hide a4
  have E4 := hide (Ext.trans E3.out e4)
  have X4 := hide (X3.out.ext e4)
  have HQ1 := hide (fun (W : World) (hW : Ext w4 W) => smpEq_true ((AX3.out.ext e4).ext hW) ((AY3.out.ext e4).ext hW))
  have HQ2 := hide (fun (W : World) (hW : Ext w4 W) => spotsEq_true ((AP3.out.ext e4).ext hW) ((AQ3.out.ext e4).ext hW))
  have HQ3 := hide (fun (W : World) (hW : Ext w4 W) => ((bytesEq_any ((AB.out.ext e4).ext hW) (AD.out.ext hW)).mono (fun e w' hp => (⟨by rw [hp.1]; simp, by rw [← hp.2]; exact Ext.refl _⟩ : e = .returned (.bool true) ∧ Ext W w'))))
  have HC1 := hide (fun (W : World) (hW : Ext w4 W) => HK1.out W (Ext.trans E4.out hW))
  have HC2 := hide (fun (W : World) (hW : Ext w4 W) => HK2.out W (Ext.trans E4.out hW))
  have HQ4 := hide (fun (W : World) (_ : Ext w4 W) => awake_any W)
  clear a4 e4 E3 X3 HD AX3 AP3 AY3 AQ3 AB y0 y1 y2 y3 y4 y5 y6 HK1 HK2
  have y0 : w4.cell? ⟨w.heap.size, 0, none⟩ = some (.int .i64 t.start) := X4.out.cell 0
  have y1 : w4.cell? ⟨w.heap.size, 1, none⟩ = some (.slice sA sn sc) := X4.out.cell 1
  have y2 : w4.cell? ⟨w.heap.size, 2, none⟩ = some (.slice hA hn hc) := X4.out.cell 2
  have y3 : w4.cell? ⟨w.heap.size, 3, none⟩ = some (.slice zA zn zc) := X4.out.cell 3
  have y4 : w4.cell? ⟨w.heap.size, 4, none⟩ = some (.slice kA kn kc) := X4.out.cell 4
  have y5 : w4.cell? ⟨w.heap.size, 5, none⟩ = some (.slice cA cn cc) := X4.out.cell 5
  have y6 : w4.cell? ⟨w.heap.size, 6, none⟩ = some (.slice pA pn pc) := X4.out.cell 6
  obtain ⟨tf, htf⟩ : ∃ tf, tabF t = tf := ⟨_, rfl⟩
  obtain ⟨xf, hxf⟩ : ∃ xf, expF t = xf := ⟨_, rfl⟩
  rw [htf] at HC1 HC2 ⊢
  rw [hxf]
  clear htf hxf
  have q1 : (tf == tf) = true := by simp
  have q2 : (xf == xf) = true := by simp
  go_upto_region 5 with (fail)
  have hS0 : TabS t w.heap.size sA sn sc hA hn hc zA zn zc kA kn kc cA cn cc pA pn pc (World.drew w4) := ⟨(Ext.drew _).cell y0, (Ext.drew _).cell y1, (Ext.drew _).cell y2, (Ext.drew _).cell y3, (Ext.drew _).cell y4, (Ext.drew _).cell y5, (Ext.drew _).cell y6⟩
  refine wp_region_held_drew (S := TabS t w.heap.size sA sn sc hA hn hc zA zn zc kA kn kc cA cn cc pA pn pc) (by kernel_rfl) hS0 (fun hS => ?_)
  have EX := hide (Ext.drew w4)
  refine held_take (i := 0) (d := 35) (oi := _) (v := ?_) rfl rfl (by kernel_rfl) (by kernel_rfl) (by kernel_rfl) (fun _ _ _ h => h) (Or.inl ⟨by rfl, ?_⟩) hS ?_
  rotate_left
  · intro W hW; obtain ⟨s0, s1, s2, s3, s4, s5, s6⟩ := hW; first | (go_simp; done) | (go_simp; with_reducible rfl)
  try simp only [Act.put, List.setIfInBounds_toArray, List.set_cons_zero, List.set_cons_succ]
  refine held_take (i := 2) (d := 37) (oi := _) (v := ?_) rfl rfl (by kernel_rfl) (by kernel_rfl) (by kernel_rfl) (fun _ _ _ h => h) (Or.inl ⟨by rfl, ?_⟩) hS ?_
  rotate_left
  · intro W hW; obtain ⟨s0, s1, s2, s3, s4, s5, s6⟩ := hW; first | (go_simp; done) | (go_simp; with_reducible rfl)
  try simp only [Act.put, List.setIfInBounds_toArray, List.set_cons_zero, List.set_cons_succ]
  refine wpAnyH_ready (rs := [1]) (by kernel_rfl) (by simp) (AllReadyH.cons rfl (fun K hK => ?_) AllReadyH.nil)
  go_simp
  go_at_call 16
  with_reducible refine (HC1.out _ EX.out).mono ?_
  rintro e wq ⟨rfl, e5⟩
  have EX := hide (Ext.trans EX.out e5)
  refine hK.out _ _ (hS.ext e5) (fun hS => ?_)
  clear e5
  clear hK K
  try simp only [Act.put, List.setIfInBounds_toArray, List.set_cons_zero, List.set_cons_succ]
  refine wpAnyH_ready (rs := [3]) (by kernel_rfl) (by simp) (AllReadyH.cons rfl (fun K hK => ?_) AllReadyH.nil)
  go_simp
  go_at_call 17
  with_reducible refine (HC2.out _ EX.out).mono ?_
  rintro e wq ⟨rfl, e5⟩
  have EX := hide (Ext.trans EX.out e5)
  refine hK.out _ _ (hS.ext e5) (fun hS => ?_)
  clear e5
  clear hK K
  try simp only [Act.put, List.setIfInBounds_toArray, List.set_cons_zero, List.set_cons_succ]
  refine held_take (i := 4) (d := 39) (oi := _) (v := ?_) rfl rfl (by kernel_rfl) (by kernel_rfl) (by kernel_rfl) (fun _ _ _ h => h) (Or.inl ⟨by rfl, ?_⟩) hS ?_
  rotate_left
  · intro W hW; obtain ⟨s0, s1, s2, s3, s4, s5, s6⟩ := hW; first | (go_simp; done) | (go_simp; with_reducible rfl)
  try simp only [Act.put, List.setIfInBounds_toArray, List.set_cons_zero, List.set_cons_succ]
  refine held_take (i := 5) (d := 40) (oi := _) (v := ?_) rfl rfl (by kernel_rfl) (by kernel_rfl) (by kernel_rfl) (fun _ _ _ h => h) (Or.inl ⟨by rfl, ?_⟩) hS ?_
  rotate_left
  · intro W hW; obtain ⟨s0, s1, s2, s3, s4, s5, s6⟩ := hW; first | (go_simp; done) | (go_simp; with_reducible rfl)
  try simp only [Act.put, List.setIfInBounds_toArray, List.set_cons_zero, List.set_cons_succ]
  refine held_take (i := 6) (d := 41) (oi := _) (v := ?_) rfl rfl (by kernel_rfl) (by kernel_rfl) (by kernel_rfl) (fun _ _ _ h => h) (Or.inl ⟨by rfl, ?_⟩) hS ?_
  rotate_left
  · intro W hW; obtain ⟨s0, s1, s2, s3, s4, s5, s6⟩ := hW; first | (go_simp; done) | (go_simp; with_reducible rfl)
  try simp only [Act.put, List.setIfInBounds_toArray, List.set_cons_zero, List.set_cons_succ]
  refine held_take (i := 7) (d := 42) (oi := _) (v := ?_) rfl rfl (by kernel_rfl) (by kernel_rfl) (by kernel_rfl) (fun _ _ _ h => h) (Or.inl ⟨by rfl, ?_⟩) hS ?_
  rotate_left
  · intro W hW; obtain ⟨s0, s1, s2, s3, s4, s5, s6⟩ := hW; first | (go_simp; done) | (go_simp; with_reducible rfl)
  try simp only [Act.put, List.setIfInBounds_toArray, List.set_cons_zero, List.set_cons_succ]
  refine wpAnyH_ready (rs := [8]) (by kernel_rfl) (by simp) (AllReadyH.cons rfl (fun K hK => ?_) AllReadyH.nil)
  go_simp
  go_at_call 18
  with_reducible refine (HQ1.out _ EX.out).mono ?_
  rintro e wq ⟨rfl, e5⟩
  have EX := hide (Ext.trans EX.out e5)
  refine hK.out _ _ (hS.ext e5) (fun hS => ?_)
  clear e5
  clear hK K
  try simp only [Act.put, List.setIfInBounds_toArray, List.set_cons_zero, List.set_cons_succ]
  refine held_take (i := 9) (d := 44) (oi := _) (v := ?_) rfl rfl (by kernel_rfl) (by kernel_rfl) (by kernel_rfl) (fun _ _ _ h => h) (Or.inl ⟨by rfl, ?_⟩) hS ?_
  rotate_left
  · intro W hW; obtain ⟨s0, s1, s2, s3, s4, s5, s6⟩ := hW; first | (go_simp; done) | (go_simp; with_reducible rfl)
  try simp only [Act.put, List.setIfInBounds_toArray, List.set_cons_zero, List.set_cons_succ]
  refine held_take (i := 10) (d := 45) (oi := _) (v := ?_) rfl rfl (by kernel_rfl) (by kernel_rfl) (by kernel_rfl) (fun _ _ _ h => h) (Or.inl ⟨by rfl, ?_⟩) hS ?_
  rotate_left
  · intro W hW; obtain ⟨s0, s1, s2, s3, s4, s5, s6⟩ := hW; first | (go_simp; done) | (go_simp; with_reducible rfl)
  try simp only [Act.put, List.setIfInBounds_toArray, List.set_cons_zero, List.set_cons_succ]
  refine held_take (i := 11) (d := 46) (oi := _) (v := ?_) rfl rfl (by kernel_rfl) (by kernel_rfl) (by kernel_rfl) (fun _ _ _ h => h) (Or.inl ⟨by rfl, ?_⟩) hS ?_
  rotate_left
  · intro W hW; obtain ⟨s0, s1, s2, s3, s4, s5, s6⟩ := hW; first | (go_simp; done) | (go_simp; with_reducible rfl)
  try simp only [Act.put, List.setIfInBounds_toArray, List.set_cons_zero, List.set_cons_succ]
  refine held_take (i := 12) (d := 47) (oi := _) (v := ?_) rfl rfl (by kernel_rfl) (by kernel_rfl) (by kernel_rfl) (fun _ _ _ h => h) (Or.inl ⟨by rfl, ?_⟩) hS ?_
  rotate_left
  · intro W hW; obtain ⟨s0, s1, s2, s3, s4, s5, s6⟩ := hW; first | (go_simp; done) | (go_simp; with_reducible rfl)
  try simp only [Act.put, List.setIfInBounds_toArray, List.set_cons_zero, List.set_cons_succ]
  refine wpAnyH_ready (rs := [13]) (by kernel_rfl) (by simp) (AllReadyH.cons rfl (fun K hK => ?_) AllReadyH.nil)
  go_simp
  go_at_call 19
  with_reducible refine (HQ2.out _ EX.out).mono ?_
  rintro e wq ⟨rfl, e5⟩
  have EX := hide (Ext.trans EX.out e5)
  refine hK.out _ _ (hS.ext e5) (fun hS => ?_)
  clear e5
  clear hK K
  try simp only [Act.put, List.setIfInBounds_toArray, List.set_cons_zero, List.set_cons_succ]
  refine held_take (i := 14) (d := 49) (oi := _) (v := ?_) rfl rfl (by kernel_rfl) (by kernel_rfl) (by kernel_rfl) (fun _ _ _ h => h) (Or.inl ⟨by rfl, ?_⟩) hS ?_
  rotate_left
  · intro W hW; obtain ⟨s0, s1, s2, s3, s4, s5, s6⟩ := hW; first | (go_simp; done) | (go_simp; with_reducible rfl)
  try simp only [Act.put, List.setIfInBounds_toArray, List.set_cons_zero, List.set_cons_succ]
  refine held_take (i := 15) (d := 50) (oi := _) (v := ?_) rfl rfl (by kernel_rfl) (by kernel_rfl) (by kernel_rfl) (fun _ _ _ h => h) (Or.inl ⟨by rfl, ?_⟩) hS ?_
  rotate_left
  · intro W hW; obtain ⟨s0, s1, s2, s3, s4, s5, s6⟩ := hW; first | (go_simp; done) | (go_simp; with_reducible rfl)
  try simp only [Act.put, List.setIfInBounds_toArray, List.set_cons_zero, List.set_cons_succ]
  refine held_take (i := 16) (d := 51) (oi := _) (v := ?_) rfl rfl (by kernel_rfl) (by kernel_rfl) (by kernel_rfl) (fun _ _ _ h => h) (Or.inl ⟨by rfl, ?_⟩) hS ?_
  rotate_left
  · intro W hW; obtain ⟨s0, s1, s2, s3, s4, s5, s6⟩ := hW; first | (go_simp; done) | (go_simp; with_reducible rfl)
  try simp only [Act.put, List.setIfInBounds_toArray, List.set_cons_zero, List.set_cons_succ]
  refine held_take (i := 17) (d := 52) (oi := _) (v := ?_) rfl rfl (by kernel_rfl) (by kernel_rfl) (by kernel_rfl) (fun _ _ _ h => h) (Or.inl ⟨by rfl, ?_⟩) hS ?_
  rotate_left
  · intro W hW; obtain ⟨s0, s1, s2, s3, s4, s5, s6⟩ := hW; first | (go_simp; done) | (go_simp; with_reducible rfl)
  try simp only [Act.put, List.setIfInBounds_toArray, List.set_cons_zero, List.set_cons_succ]
  refine held_take (i := 18) (d := 53) (oi := _) (v := ?_) rfl rfl (by kernel_rfl) (by kernel_rfl) (by kernel_rfl) (fun _ _ _ h => h) (Or.inl ⟨by rfl, ?_⟩) hS ?_
  rotate_left
  · intro W hW; obtain ⟨s0, s1, s2, s3, s4, s5, s6⟩ := hW; first | (go_simp; done) | (go_simp; with_reducible rfl)
  try simp only [Act.put, List.setIfInBounds_toArray, List.set_cons_zero, List.set_cons_succ]
  refine held_take (i := 19) (d := 54) (oi := _) (v := ?_) rfl rfl (by kernel_rfl) (by kernel_rfl) (by kernel_rfl) (fun _ _ _ h => h) (Or.inl ⟨by rfl, ?_⟩) hS ?_
  rotate_left
  · intro W hW; obtain ⟨s0, s1, s2, s3, s4, s5, s6⟩ := hW; first | (go_simp; done) | (go_simp; with_reducible rfl)
  try simp only [Act.put, List.setIfInBounds_toArray, List.set_cons_zero, List.set_cons_succ]
  refine held_take (i := 20) (d := 55) (oi := _) (v := ?_) rfl rfl (by kernel_rfl) (by kernel_rfl) (by kernel_rfl) (fun _ _ _ h => h) (Or.inl ⟨by rfl, ?_⟩) hS ?_
  rotate_left
  · intro W hW; obtain ⟨s0, s1, s2, s3, s4, s5, s6⟩ := hW; first | (go_simp; done) | (go_simp; with_reducible rfl)
  try simp only [Act.put, List.setIfInBounds_toArray, List.set_cons_zero, List.set_cons_succ]
  refine held_take (i := 21) (d := 56) (oi := _) (v := ?_) rfl rfl (by kernel_rfl) (by kernel_rfl) (by kernel_rfl) (fun _ _ _ h => h) (Or.inl ⟨by rfl, ?_⟩) hS ?_
  rotate_left
  · intro W hW; obtain ⟨s0, s1, s2, s3, s4, s5, s6⟩ := hW; first | (go_simp; done) | (go_simp; with_reducible rfl)
  try simp only [Act.put, List.setIfInBounds_toArray, List.set_cons_zero, List.set_cons_succ]
  refine held_take (i := 22) (d := 57) (oi := _) (v := ?_) rfl rfl (by kernel_rfl) (by kernel_rfl) (by kernel_rfl) (fun _ _ _ h => h) (Or.inl ⟨by rfl, ?_⟩) hS ?_
  rotate_left
  · intro W hW; obtain ⟨s0, s1, s2, s3, s4, s5, s6⟩ := hW; first | (go_simp; done) | (go_simp; with_reducible rfl)
  try simp only [Act.put, List.setIfInBounds_toArray, List.set_cons_zero, List.set_cons_succ]
  refine wpAnyH_ready (rs := [23]) (by kernel_rfl) (by simp) (AllReadyH.cons rfl (fun K hK => ?_) AllReadyH.nil)
  go_simp
  go_at_call 20
  with_reducible refine (HQ3.out _ EX.out).mono ?_
  rintro e wq ⟨rfl, e5⟩
  have EX := hide (Ext.trans EX.out e5)
  refine hK.out _ _ (hS.ext e5) (fun hS => ?_)
  clear e5
  clear hK K
  try simp only [Act.put, List.setIfInBounds_toArray, List.set_cons_zero, List.set_cons_succ]
  refine held_take (i := 24) (d := 59) (oi := _) (v := ?_) rfl rfl (by kernel_rfl) (by kernel_rfl) (by kernel_rfl) (fun _ _ _ h => h) (Or.inl ⟨by rfl, ?_⟩) hS ?_
  rotate_left
  · intro W hW; obtain ⟨s0, s1, s2, s3, s4, s5, s6⟩ := hW; first | (go_simp; done) | (go_simp; with_reducible rfl)
  try simp only [Act.put, List.setIfInBounds_toArray, List.set_cons_zero, List.set_cons_succ]
  refine held_take (i := 25) (d := 60) (oi := _) (v := ?_) rfl rfl (by kernel_rfl) (by kernel_rfl) (by kernel_rfl) (fun _ _ _ h => h) (Or.inl ⟨by rfl, ?_⟩) hS ?_
  rotate_left
  · intro W hW; obtain ⟨s0, s1, s2, s3, s4, s5, s6⟩ := hW; first | (go_simp; done) | (go_simp; with_reducible rfl)
  try simp only [Act.put, List.setIfInBounds_toArray, List.set_cons_zero, List.set_cons_succ]
  refine held_take (i := 26) (d := 61) (oi := _) (v := ?_) rfl rfl (by kernel_rfl) (by kernel_rfl) (by kernel_rfl) (fun _ _ _ h => h) (Or.inl ⟨by rfl, ?_⟩) hS ?_
  rotate_left
  · intro W hW; obtain ⟨s0, s1, s2, s3, s4, s5, s6⟩ := hW; first | (go_simp; done) | (go_simp; with_reducible rfl)
  try simp only [Act.put, List.setIfInBounds_toArray, List.set_cons_zero, List.set_cons_succ]
  refine held_take (i := 27) (d := 62) (oi := _) (v := ?_) rfl rfl (by kernel_rfl) (by kernel_rfl) (by kernel_rfl) (fun _ _ _ h => h) (Or.inl ⟨by rfl, ?_⟩) hS ?_
  rotate_left
  · intro W hW; obtain ⟨s0, s1, s2, s3, s4, s5, s6⟩ := hW; first | (go_simp; done) | (go_simp; with_reducible rfl)
  try simp only [Act.put, List.setIfInBounds_toArray, List.set_cons_zero, List.set_cons_succ]
  refine held_take (i := 28) (d := 63) (oi := _) (v := ?_) rfl rfl (by kernel_rfl) (by kernel_rfl) (by kernel_rfl) (fun _ _ _ h => h) (Or.inl ⟨by rfl, ?_⟩) hS ?_
  rotate_left
  · intro W hW; obtain ⟨s0, s1, s2, s3, s4, s5, s6⟩ := hW; first | (go_simp; done) | (go_simp; with_reducible rfl)
  try simp only [Act.put, List.setIfInBounds_toArray, List.set_cons_zero, List.set_cons_succ]
  refine held_take (i := 29) (d := 64) (oi := _) (v := ?_) rfl rfl (by kernel_rfl) (by kernel_rfl) (by kernel_rfl) (fun _ _ _ h => h) (Or.inl ⟨by rfl, ?_⟩) hS ?_
  rotate_left
  · intro W hW; obtain ⟨s0, s1, s2, s3, s4, s5, s6⟩ := hW; first | (go_simp; done) | (go_simp; with_reducible rfl)
  try simp only [Act.put, List.setIfInBounds_toArray, List.set_cons_zero, List.set_cons_succ]
  refine held_take (i := 30) (d := 65) (oi := _) (v := ?_) rfl rfl (by kernel_rfl) (by kernel_rfl) (by kernel_rfl) (fun _ _ _ h => h) (Or.inl ⟨by rfl, ?_⟩) hS ?_
  rotate_left
  · intro W hW; obtain ⟨s0, s1, s2, s3, s4, s5, s6⟩ := hW; first | (go_simp; done) | (go_simp; with_reducible rfl)
  try simp only [Act.put, List.setIfInBounds_toArray, List.set_cons_zero, List.set_cons_succ]
  refine wpAnyH_ready (rs := [31]) (by kernel_rfl) (by simp) (AllReadyH.cons rfl (fun K hK => ?_) AllReadyH.nil)
  go_simp
  go_at_call 11
  with_reducible refine (HQ4.out _ EX.out).mono ?_
  rintro e wq ⟨rfl, e5⟩
  have EX := hide (Ext.trans EX.out e5)
  refine hK.out _ _ (hS.ext e5) (fun hS => ?_)
  clear e5
  clear hK K
  try simp only [Act.put, List.setIfInBounds_toArray, List.set_cons_zero, List.set_cons_succ]
  refine held_take (i := 32) (d := 67) (oi := _) (v := ?_) rfl rfl (by kernel_rfl) (by kernel_rfl) (by kernel_rfl) (fun _ _ _ h => h) (Or.inl ⟨by rfl, ?_⟩) hS ?_
  rotate_left
  · intro W hW; obtain ⟨s0, s1, s2, s3, s4, s5, s6⟩ := hW; first | (go_simp; done) | (go_simp; with_reducible rfl)
  try simp only [Act.put, List.setIfInBounds_toArray, List.set_cons_zero, List.set_cons_succ]
  refine held_take (i := 33) (d := 2) (oi := _) (v := ?_) rfl rfl (by kernel_rfl) (by kernel_rfl) (by kernel_rfl) (fun _ _ _ h => h) (Or.inl ⟨by rfl, ?_⟩) hS ?_
  rotate_left
  · intro W hW; obtain ⟨s0, s1, s2, s3, s4, s5, s6⟩ := hW; first | (go_simp; done) | (go_simp; with_reducible rfl)
  try simp only [Act.put, List.setIfInBounds_toArray, List.set_cons_zero, List.set_cons_succ]
  refine wpAnyH_done (by kernel_rfl) ?_ _
  go_wp2_with fail
  go_ret
  exact ⟨rfl, Ext.trans E4.out EX.out⟩
set_option maxRecDepth 100000 in
theorem boxTablesMatchSpec_lifted (os : Os) (started : os.Started) (H : Type) (enc : TypeId × Value → H) :
    ReturnsInHanded {} Try.checked os 4 .any (Rows.boxTablesMatchSpecSpec.pre6 enc Try.prog Try.f4 Rows.boxTablesMatchSpecRow.domain false) (Rows.boxTablesMatchSpecSpec.post enc Try.prog Try.f4 false true false false) := by
  refine returnsInHanded_of_change_sized (C := Try.checked) Try.own started (by kernel_rfl) Try.func4
    (ChangeSpec.witness6 (enc := enc) (C := Try.checked) false ⟨#[], #[.agg #[.int .i64 0, .slice none 0 0, .slice none 0 0, .slice none 0 0, .slice none 0 0, .slice none 0 0, .slice none 0 0]], []⟩ 8 (by kernel_rfl) (by kernel_rfl) (by kernel_rfl) (by kernel_rfl)) ?_
  intro W base args ds gs before hval0 hW _ hsz0 _
  have hsz : (DataW.weightsEach Try.prog (Try.f4.params.toList ++ Rows.boxTablesMatchSpecSpec.plain.varTypes Try.prog) (ds ++ gs)).all (· ≤ reachBytes) = true := hsz0
  have hval : ∀ (j : Nat) t v, Try.f4.params[j]? = some t → args[j]? = some v → Value.okWide Try.prog W .any base t v := hval0
  have hW' := hW
  obtain ⟨p, q, hA0, hV, rfl, _, _⟩ := hW
  have hA : DataW.TrodAll enc Try.prog W 0 (fun _ => true) true Try.f4.params.toList args.toList ds p := hA0
  rw [Try.params4] at hA hval hsz
  obtain ⟨v0, d0, rfl, rfl, h0⟩ := trodAll_one hA
  obtain ⟨t0, sA0, sn0, sc0, hA0, hn0, hc0, zA0, zn0, zc0, kA0, kn0, kc0, cA0, cn0, cc0, pA0, pn0, pc0, rfl, hTa0, hTz0⟩ := open_table (hval 0 27 v0 rfl rfl) h0 (weights_of hsz 0 rfl rfl)
  refine (tabmatch_any hTa0 hTz0).mono fun e W' ⟨he, hE⟩ => ?_
  subst he
  exact ⟨_, rfl, law_post Try.laidOut Try.underlying4 hW' rfl rfl rfl (by kernel_rfl) hE⟩
theorem boxTablesMatchSpec_closed : joinedFacts Try.prog 4 Try.f4 Rows.boxTablesMatchSpecSpec Rows.boxTablesMatchSpecRow = true :=
  joined_of Try.laidOut Try.mapsRowed Try.plainKeys Try.stopsHeard Try.stopsNone Try.knobsNone Try.mayEnter Try.makeCut Try.liftsFinal rfl rfl rfl (by as_aux_lemma => kernel_rfl)
    (by as_aux_lemma => kernel_rfl) (by as_aux_lemma => kernel_rfl) (by as_aux_lemma => kernel_rfl) (by as_aux_lemma => kernel_rfl) (by as_aux_lemma => kernel_rfl) (by as_aux_lemma => kernel_rfl) (by as_aux_lemma => kernel_rfl) (by as_aux_lemma => kernel_rfl) (by as_aux_lemma => kernel_rfl) (by as_aux_lemma => kernel_rfl)
theorem boxTablesMatchSpec_holds : Rows.BoxTablesMatchSpecSaid :=
  OpenClaim.holds_of_wide 4 Try.f4 rfl rfl rfl rfl rfl rfl rfl ⟨rfl, rfl, rfl, rfl, rfl⟩ rfl rfl rfl rfl rfl (by as_aux_lemma => kernel_rfl) Try.func4 boxTablesMatchSpec_closed
    (of_decide_eq_true (by kernel_rfl)) (by unfold Func.isWrapper; first | (rw [if_pos (by decide +kernel)]; kernel_rfl) | (rw [if_neg (by decide +kernel)]; exact ⟨rfl, rfl⟩))
    (fun os started H enc _ => boxTablesMatchSpec_lifted os started H enc)
#print axioms boxTablesMatchSpec_holds
end Go.Proofs.Ytkdmfkpkelnheaa
