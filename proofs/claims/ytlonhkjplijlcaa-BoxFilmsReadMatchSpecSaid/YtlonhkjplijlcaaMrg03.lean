/- Several texts in one: Walk: the head of a box (program). Conditions as stated; A drawn region whose last operation writes a cell that an elder one loads. Conditions: as stated; Words for slices of slices of numbers. No condition; A drawn region whose last phase writes cells that elder operations load: more words. Conditions: as stated; Taking an operation of a drawn region first, its slot told. Conditions: as stated; Words for stores into an owned row of one-cell elements. No condition. -/
import Derived.Test.YtlonhkjplijlcaaMrg01
import Derived.Test.YtlonhkjplijlcaaMrg02
import Derived.Laws.BytesArg
import Derived.StillTailTactics
import Derived.Deep.DeepCutAuto
import Derived.Test.YtlonhkjplijlcaaMrg00
import Derived.Deep.RegionHeld3
namespace Go.Proofs.Ytlonhkjplijlcaa
open Go.RowKit
theorem strOf_eq (l : List UInt8) : strOfNums (l.map fun c => (c.toNat : Int)) = ⟨l.toArray⟩ := by
  unfold strOfNums
  rw [List.map_map]
  congr 2
  conv => rhs; rw [← List.map_id l]
  apply List.map_congr_left
  intro c _
  simp
/-- string(b) of bytes that read as a list. -/
theorem conv_bytes {A : Option Addr} {n c : Nat} {l : List UInt8} {W : World} (h : At W 1 e8 A n c l) (hn : 0 < n) : (convert 26 9 (.slice A n c)).run Try.prog W = .ok (.string ⟨l.toArray⟩) W := by
  obtain ⟨b, off, rfl, _⟩ := h.addr hn
  have hl := h.len
  rw [run_convert_bytes_arg W 26 5 Try.underlying26 Try.underlying5 b off n c (l.map fun c => (c.toNat : Int)) (by simp; omega) (fun i hi => by
    rw [h.byte (k := i) (by omega)]
    simp [List.getD, show i < l.length by omega]) 9 Try.underlying9, strOf_eq]
/-- What head gives. -/
def HeadGives (w : World) (gn f : Nat) (r : Option (List UInt8 × Int × Nat × Nat)) (e : Ending) (w' : World) : Prop :=
  Tw w w' gn none ∧ (r = none → e = .returned (.bool false)) ∧ (∀ k fo d x, r = some (k, fo, d, x) → e = .returned (.bool true) ∧ Blk w' gn 109 #[.string ⟨k.toArray⟩, .int .i64 fo, .slice none 0 0, .slice none 0 0, .int .i64 (f : Int), .int .i64 (d : Int), .int .i64 (x : Int), .slice none 0 0])
theorem HeadGives.no {w w' : World} {gn f : Nat} {r : Option (List UInt8 × Int × Nat × Nat)} (h : r = none) (hT : Tw w w' gn none) : HeadGives w gn f r (.returned (.bool false)) w' :=
  ⟨hT, fun _ => rfl, (fun k fo d x h' => by rw [h] at h'; cases h')⟩
theorem HeadGives.yes {w w' : World} {gn f : Nat} {r : Option (List UInt8 × Int × Nat × Nat)} {k : List UInt8} {fo : Int} {d x : Nat} (h : r = some (k, fo, d, x)) (hT : Tw w w' gn none)
    (hN : Blk w' gn 109 #[.string ⟨k.toArray⟩, .int .i64 fo, .slice none 0 0, .slice none 0 0, .int .i64 (f : Int), .int .i64 (d : Int), .int .i64 (x : Int), .slice none 0 0]) : HeadGives w gn f r (.returned (.bool true)) w' :=
  ⟨hT, (fun h' => by rw [h] at h'; cases h'), (fun k fo d x h' => by rw [h] at h'; cases h'; exact ⟨rfl, hN⟩)⟩
set_option linter.unusedVariables false in
set_option linter.unusedSimpArgs false in
set_option maxRecDepth 100000 in
set_option maxHeartbeats 8000000 in
theorem head_any {gp gn f t : Nat} {A : Option Addr} {n c : Nat} {b : List UInt8} {cnt : Int} {w : World} (hp : Blk w gp 112 #[.slice A n c, .int .i64 cnt]) (hn : Blk w gn 109 #[.string ⟨#[]⟩, .int .i64 0, .slice none 0 0, .slice none 0 0, .int .i64 (f : Int), .int .i64 0, .int .i64 0, .slice none 0 0])
    (hb : At w 1 e8 A n c b) (hg : gp ≠ gn) (hA : ∀ a, A = some a → a.block ≠ gn) (h1 : f < t) (h2 : t ≤ n) (h3 : n ≤ 1000000) :
    Calls Try.prog 79 #[.pointer (some ⟨gp, 0, none⟩), .pointer (some ⟨gn, 0, none⟩), .int .i64 (t : Int)] w (HeadGives w gn f (headP b f t)) := by
  have hle := hb.le
  have hlen := hb.len
  have HB := hide hb
  have P0 := hide hp
  have N0 := hide hn
  have hv : headP b f t = if t - f < 8 then none
      else if numB (cutB b f (f + 4)) = 1 then (if t - f < 16 then none else headF (cutB b (f + 4) (f + 8)) 1 f (t - f) (f + 16) (numB (cutB b (f + 8) (f + 16))))
      else if numB (cutB b f (f + 4)) = 0 then headF (cutB b (f + 4) (f + 8)) 2 f (t - f) (f + 8) (t - f)
      else headF (cutB b (f + 4) (f + 8)) 0 f (t - f) (f + 8) (numB (cutB b f (f + 4))) := rfl
  have c4 := hn.cell 4
  by_cases hs : t - f < 8
  · have HV : Hid (headP b f t = none) := hide (by rw [hv, if_pos hs])
    clear hv hp hn hb hlen
    have i1 : (t : Int) - (f : Int) < 8 := by omega
    go_enter Try.func79, Try.ntmps79
    go_wp2_with fail
    go_ret
    exact HeadGives.no HV.out (Tw.refl _ _ _)
  rw [if_neg hs] at hv
  have i8 : (8 : Int) ≤ (t : Int) - (f : Int) := by omega
  have hcap : f + 8 ≤ c := by omega
  obtain ⟨A1, hr1, ha1⟩ := hb.range_ Try.underlying26 (fun _ => by kernel_rfl) (k := f) (m := f + 4) (by omega) (by omega) (f : Int) ((f : Int) + 4) rfl (by omega)
  obtain ⟨A2, hr2, ha2⟩ := hb.range_ Try.underlying26 (fun _ => by kernel_rfl) (k := f + 4) (m := f + 8) (by omega) (by omega) ((f : Int) + 4) ((f : Int) + 8) (by omega) (by omega)
  have e1 : (b.drop f).take (f + 4 - f) = cutB b f (f + 4) := rfl
  have e2 : (b.drop (f + 4)).take (f + 8 - (f + 4)) = cutB b (f + 4) (f + 8) := rfl
  rw [e1] at ha1
  rw [e2] at ha2
  rw [show f + 4 - f = 4 by omega] at hr1 ha1
  rw [show f + 8 - (f + 4) = 4 by omega] at hr2 ha2
  have hk4 : (cutB b (f + 4) (f + 8)).length = 4 := by unfold cutB; rw [List.length_take, List.length_drop]; omega
  have hn4 : (cutB b f (f + 4)).length = 4 := by unfold cutB; rw [List.length_take, List.length_drop]; omega
  have hq := numB_lt 4 _ hn4
  have HN1 := hide (fun (W : World) (hW : Ext w W) => numberOf_any (ha1 W (HB.out.ext hW)) (by omega))
  have HCV := hide (fun (W : World) (hW : At W 1 e8 A n c b) => conv_bytes (ha2 W hW) (by omega))
  have HIK := hide (fun (W : World) => isKind_any ⟨(cutB b (f + 4) (f + 8)).toArray⟩ W (by simp [ByteArray.size, hk4, maxLen]))
  generalize numB (cutB b f (f + 4)) = q at *
  have HR1 := hide hr1
  have HR2 := hide hr2
  have HV := hide hv
  have w4 : IntKind.i64.wrap ((f : Int) + 4) = (f : Int) + 4 := by rw [IntKind.wrap_i64]; omega
  have w8 : IntKind.i64.wrap ((f : Int) + 8) = (f : Int) + 8 := by rw [IntKind.wrap_i64]; omega
  have p0 := hp.cell 0
  clear hv hp hn hb hlen hr1 hr2 ha1 ha2 e1 e2 hk4 hn4
  go_enter Try.func79, Try.ntmps79
  go_wp2_with fail
  have hr1 := HR1.out
  go_quiet ((go_at_call 56; exact quiet_left (HN1.out _ (Ext.drewN _ _))))
  go_wp2_with fail
  refine gen_wpC fun w1 hw1 => ?_
  have X1 : Hid (Ext w w1) := hide (by rw [hw1]; exact Ext.drewN _ _)
  have N1 := hide (N0.out.ext X1.out)
  have P1 := hide (P0.out.ext X1.out)
  clear hw1 p0 c4
  have p0 : w1.cell? ⟨gp, 0, none⟩ = some (.slice A n c) := P1.out.cell 0
  have c4 : w1.cell? ⟨gn, 4, none⟩ = some (.int .i64 (f : Int)) := N1.out.cell 4
  have hr2 := HR2.out
  have hcv := HCV.out w1.drew ((HB.out.ext X1.out).ext (Ext.drew _))
  have hcw := HCV.out w1 (HB.out.ext X1.out)
  go_still_tail 20, (by kernel_rfl)
  change wpList _ _ _ _ _ w1.drew
  have X2 : Hid (Ext w w1.drew) := hide (Ext.trans X1.out (Ext.drew _))
  have N2 := hide N1.out.drew
  have P2 := hide P1.out.drew
  clear hcv hcw p0 c4
  generalize w1.drew = w2 at *
  have p0 : w2.cell? ⟨gp, 0, none⟩ = some (.slice A n c) := P2.out.cell 0
  have c0 : w2.cell? ⟨gn, 0, none⟩ = some (.string ⟨#[]⟩) := N2.out.cell 0
  have z0 : w2.frozen? ⟨gn, 0, none⟩ = false := N2.out.frozen 0
  have c1 : w2.cell? ⟨gn, 1, none⟩ = some (.int .i64 0) := N2.out.cell 1
  have z1 : w2.frozen? ⟨gn, 1, none⟩ = false := N2.out.frozen 1
  have c2 : w2.cell? ⟨gn, 2, none⟩ = some (.slice none 0 0) := N2.out.cell 2
  have z2 : w2.frozen? ⟨gn, 2, none⟩ = false := N2.out.frozen 2
  have c3 : w2.cell? ⟨gn, 3, none⟩ = some (.slice none 0 0) := N2.out.cell 3
  have z3 : w2.frozen? ⟨gn, 3, none⟩ = false := N2.out.frozen 3
  have c4 : w2.cell? ⟨gn, 4, none⟩ = some (.int .i64 (f : Int)) := N2.out.cell 4
  have z4 : w2.frozen? ⟨gn, 4, none⟩ = false := N2.out.frozen 4
  have c5 : w2.cell? ⟨gn, 5, none⟩ = some (.int .i64 0) := N2.out.cell 5
  have z5 : w2.frozen? ⟨gn, 5, none⟩ = false := N2.out.frozen 5
  have c6 : w2.cell? ⟨gn, 6, none⟩ = some (.int .i64 0) := N2.out.cell 6
  have z6 : w2.frozen? ⟨gn, 6, none⟩ = false := N2.out.frozen 6
  have c7 : w2.cell? ⟨gn, 7, none⟩ = some (.slice none 0 0) := N2.out.cell 7
  have z7 : w2.frozen? ⟨gn, 7, none⟩ = false := N2.out.frozen 7
  clear N1 P1 X1
  have T0 := hide (Tw.of_ext X2.out gn none)
  have HBT := hide (fun (W : World) (hT : Tw w W gn none) => HB.out.tw hT (fun a ha => ⟨hA a ha, by simp⟩))
  have hkb : isKindB (cutB b (f + 4) (f + 8)) = isKindB (cutB b (f + 4) (f + 8)) := rfl
  have HIK := hide (fun (W : World) => (show Calls Try.prog 97 #[.string ⟨(cutB b (f + 4) (f + 8)).toArray⟩] W (fun e w' => e = .returned (.bool (isKindB (cutB b (f + 4) (f + 8)))) ∧ W = w') from HIK.out W))
  have HHF := hide (fun (fo : Int) (l d s : Nat) => (show headF (cutB b (f + 4) (f + 8)) fo f l d s = if isKindB (cutB b (f + 4) (f + 8)) = true ∧ d - f ≤ s ∧ s ≤ l then some (cutB b (f + 4) (f + 8), fo, d, f + s) else none from rfl))
  clear hkb
  generalize isKindB (cutB b (f + 4) (f + 8)) = kb at *
  have u1 : IntKind.u64.wrap ((t : Int) - (f : Int)) = (t : Int) - (f : Int) := by rw [IntKind.wrap_u64]; omega
  by_cases hq1 : q = 1
  · have j1 : ((q : Int) == 1) = true := by simp [hq1]
    by_cases hs16 : t - f < 16
    · have HV : Hid (headP b f t = none) := hide (by rw [HV.out, if_pos hq1, if_pos hs16])
      have j2 : (t : Int) - (f : Int) < 16 := by omega
      clear hq1
      go_wp2_with fail
      refine gen_bod fun w9 h9 => ?_
      have T9 : Tw w w9 gn none := by rw [h9]; (repeat' (first | (with_reducible exact T0.out) | (with_reducible refine Tw.trans ?_ (Tw.set_ _ _ _ _ _))))
      clear h9
      go_ret
      exact HeadGives.no HV.out T9
    have j2 : (16 : Int) ≤ (t : Int) - (f : Int) := by omega
    have HV : Hid (headP b f t = headF (cutB b (f + 4) (f + 8)) 1 f (t - f) (f + 16) (numB (cutB b (f + 8) (f + 16)))) := hide (by rw [HV.out, if_pos hq1, if_neg hs16])
    obtain ⟨A3, hr3, ha3⟩ := HB.out.range_ Try.underlying26 (fun _ => by kernel_rfl) (k := f + 8) (m := f + 16) (by omega) (by omega) ((f : Int) + 8) ((f : Int) + 16) (by omega) (by omega)
    have e3 : (b.drop (f + 8)).take (f + 16 - (f + 8)) = cutB b (f + 8) (f + 16) := rfl
    rw [e3] at ha3
    rw [show f + 16 - (f + 8) = 8 by omega] at hr3 ha3
    have HN2 := hide (fun (W : World) (hW : At W 1 e8 A n c b) => numberOf_any (ha3 W hW) (by omega))
    generalize numB (cutB b (f + 8) (f + 16)) = sz at *
    have HR3 := hide hr3
    clear hr3 ha3 e3 hq1 hr2
    go_wp2_with fail
    refine gen_wpC fun w3 h3 => ?_
    obtain ⟨d, hd⟩ : ∃ d : Nat, d = f + 16 := ⟨_, rfl⟩
    have N3 : Hid (Blk w3 gn 109 #[.string ⟨(cutB b (f + 4) (f + 8)).toArray⟩, .int .i64 1, .slice none 0 0, .slice none 0 0, .int .i64 (f : Int), .int .i64 (d : Int), .int .i64 0, .slice none 0 0]) := hide (by rw [h3, show (d : Int) = (f : Int) + 16 by omega]; exact (((N2.out.set_ 0 _).set_ 5 _).set_ 1 _).set_ 5 _)
    have T3 : Hid (Tw w w3 gn none) := hide (by rw [h3]; (repeat' (first | (with_reducible exact T0.out) | (with_reducible refine Tw.trans ?_ (Tw.set_ _ _ _ _ _)))))
    have P3 := hide (T3.out.blk P0.out hg (by simp))
    have HV : Hid (headP b f t = headF (cutB b (f + 4) (f + 8)) 1 f (t - f) d sz) := hide (by rw [HV.out, hd])
    have hd1 : f + 8 ≤ d := by omega
    have hd2 : d ≤ f + 16 := by omega
    clear h3 hd p0 c0 z0 c1 z1 c2 z2 c3 z3 c4 z4 c5 z5 c6 z6 c7 z7 N2 P2 X2
    have w16 : IntKind.i64.wrap ((f : Int) + 16) = (f : Int) + 16 := by rw [IntKind.wrap_i64]; omega
    have p0 : w3.cell? ⟨gp, 0, none⟩ = some (.slice A n c) := P3.out.cell 0
    have c4 : w3.cell? ⟨gn, 4, none⟩ = some (.int .i64 (f : Int)) := N3.out.cell 4
    have hr3 := HR3.out
    have H3 := hide (HBT.out w3 T3.out)
    go_quiet ((go_at_call 56; exact quiet_left (HN2.out _ (H3.out.ext (Ext.drewN _ _)))))
    clear p0 c4 hr3
    go_wp2_with fail
    refine gen_wpC fun w4 h4 => ?_
    have X4 : Hid (Ext w3 w4) := hide (by rw [h4]; exact Ext.drewN _ _)
    have N4 := hide (N3.out.ext X4.out)
    have T4 := hide (T3.out.trans (Tw.of_ext X4.out gn none))
    clear h4 X4 N3 T3 H3
    have c0 : w4.cell? ⟨gn, 0, none⟩ = some (.string ⟨(cutB b (f + 4) (f + 8)).toArray⟩) := N4.out.cell 0
    have c4 : w4.cell? ⟨gn, 4, none⟩ = some (.int .i64 (f : Int)) := N4.out.cell 4
    have c5 : w4.cell? ⟨gn, 5, none⟩ = some (.int .i64 (d : Int)) := N4.out.cell 5
    have c6 : w4.cell? ⟨gn, 6, none⟩ = some (.int .i64 0) := N4.out.cell 6
    have z6 : w4.frozen? ⟨gn, 6, none⟩ = false := N4.out.frozen 6
    have u2 : IntKind.u64.wrap ((d : Int) - (f : Int)) = (d : Int) - (f : Int) := by rw [IntKind.wrap_u64]; omega
    have u3 : IntKind.i64.wrap ((d : Int) - (f : Int)) = (d : Int) - (f : Int) := by rw [IntKind.wrap_i64]; omega
    cases kb with
    | false =>
      have HRES : Hid (headP b f t = none) := hide (by rw [HV.out, HHF.out, if_neg (fun h => Bool.noConfusion h.1)])
      clear HV
      go_quiet ((go_at_call 97; exact quiet_left (HIK.out _)))
      go_wp2_with fail
      refine gen_bod fun w9 h9 => ?_
      have T9 : Tw w w9 gn none := by rw [h9]; (repeat' (first | (with_reducible exact T4.out) | (with_reducible refine Tw.drewN ?_ _) | (with_reducible refine Tw.trans ?_ (Tw.set_ _ _ _ _ _))))
      clear h9
      go_ret
      exact HeadGives.no HRES.out T9
    | true =>
      by_cases hs1 : sz < d - f
      · have g1 : decide ((sz : Int) < (d : Int) - (f : Int)) = true := by simp; omega
        have HRES : Hid (headP b f t = none) := hide (by rw [HV.out, HHF.out, if_neg (fun h => by have := h.2.1; omega)])
        clear HV hs1
        go_quiet ((go_at_call 97; exact quiet_left (HIK.out _)))
        go_wp2_with fail
        refine gen_bod fun w9 h9 => ?_
        have T9 : Tw w w9 gn none := by rw [h9]; (repeat' (first | (with_reducible exact T4.out) | (with_reducible refine Tw.drewN ?_ _) | (with_reducible refine Tw.trans ?_ (Tw.set_ _ _ _ _ _))))
        clear h9
        go_ret
        exact HeadGives.no HRES.out T9
      have g1 : decide ((sz : Int) < (d : Int) - (f : Int)) = false := by simp; omega
      by_cases hs2 : t - f < sz
      · have g2 : decide ((t : Int) - (f : Int) < (sz : Int)) = true := by simp; omega
        have HRES : Hid (headP b f t = none) := hide (by rw [HV.out, HHF.out, if_neg (fun h => by have := h.2.2; omega)])
        clear HV hs1 hs2
        go_quiet ((go_at_call 97; exact quiet_left (HIK.out _)))
        go_wp2_with fail
        refine gen_bod fun w9 h9 => ?_
        have T9 : Tw w w9 gn none := by rw [h9]; (repeat' (first | (with_reducible exact T4.out) | (with_reducible refine Tw.drewN ?_ _) | (with_reducible refine Tw.trans ?_ (Tw.set_ _ _ _ _ _))))
        clear h9
        go_ret
        exact HeadGives.no HRES.out T9
      have g2 : decide ((t : Int) - (f : Int) < (sz : Int)) = false := by first | (simp; done) | (simp; omega)
      have v1 : IntKind.i64.wrap ((sz : Int)) = (sz : Int) := by rw [IntKind.wrap_i64]; omega
      have hs3 : (sz : Int) ≤ 1000000 := by omega
      obtain ⟨x, hx⟩ : ∃ x : Nat, x = f + (sz) := ⟨_, rfl⟩
      have HRES : Hid (headP b f t = some (cutB b (f + 4) (f + 8), 1, d, x)) := hide (by rw [HV.out, HHF.out, if_pos ⟨rfl, by omega, by omega⟩, hx])
      have HX := hide hx
      clear hx hs1 hs2
      go_quiet ((go_at_call 97; exact quiet_left (HIK.out _)))
      go_wp2_with fail
      refine gen_bod fun w9 h9 => ?_
      have T9 : Tw w w9 gn none := by rw [h9]; (repeat' (first | (with_reducible exact T4.out) | (with_reducible refine Tw.drewN ?_ _) | (with_reducible refine Tw.trans ?_ (Tw.set_ _ _ _ _ _))))
      have N9 : Blk w9 gn 109 #[.string ⟨(cutB b (f + 4) (f + 8)).toArray⟩, .int .i64 1, .slice none 0 0, .slice none 0 0, .int .i64 (f : Int), .int .i64 (d : Int), .int .i64 (x : Int), .slice none 0 0] := by rw [h9, show (x : Int) = (f : Int) + ((sz : Int)) by have := HX.out; omega]; first | exact (N4.out.drewN _).set_ 6 _ | exact (N4.out.set_ 6 _).drewN _
      clear h9
      go_ret
      exact HeadGives.yes HRES.out T9 N9
  by_cases hq0 : q = 0
  · have j1 : ((q : Int) == 1) = false := by simp; omega
    have j0 : ((q : Int) == 0) = true := by simp [hq0]
    have HV : Hid (headP b f t = headF (cutB b (f + 4) (f + 8)) 2 f (t - f) (f + 8) (t - f)) := hide (by rw [HV.out, if_neg hq1, if_pos hq0])
    clear hq1 hq0 hr2
    go_wp2_with fail
    refine gen_wpC fun w3 h3 => ?_
    obtain ⟨d, hd⟩ : ∃ d : Nat, d = f + 8 := ⟨_, rfl⟩
    have N3 : Hid (Blk w3 gn 109 #[.string ⟨(cutB b (f + 4) (f + 8)).toArray⟩, .int .i64 2, .slice none 0 0, .slice none 0 0, .int .i64 (f : Int), .int .i64 (d : Int), .int .i64 0, .slice none 0 0]) := hide (by rw [h3, show (d : Int) = (f : Int) + 8 by omega]; exact ((N2.out.set_ 0 _).set_ 5 _).set_ 1 _)
    have T3 : Hid (Tw w w3 gn none) := hide (by rw [h3]; (repeat' (first | (with_reducible exact T0.out) | (with_reducible refine Tw.trans ?_ (Tw.set_ _ _ _ _ _)))))
    have P3 := hide (T3.out.blk P0.out hg (by simp))
    have HV : Hid (headP b f t = headF (cutB b (f + 4) (f + 8)) 2 f (t - f) d (t-f)) := hide (by rw [HV.out, hd])
    have hd1 : f + 8 ≤ d := by omega
    have hd2 : d ≤ f + 8 := by omega
    clear h3 hd p0 c0 z0 c1 z1 c2 z2 c3 z3 c4 z4 c5 z5 c6 z6 c7 z7 N2 P2 X2
    have c0 : w3.cell? ⟨gn, 0, none⟩ = some (.string ⟨(cutB b (f + 4) (f + 8)).toArray⟩) := N3.out.cell 0
    have c4 : w3.cell? ⟨gn, 4, none⟩ = some (.int .i64 (f : Int)) := N3.out.cell 4
    have c5 : w3.cell? ⟨gn, 5, none⟩ = some (.int .i64 (d : Int)) := N3.out.cell 5
    have c6 : w3.cell? ⟨gn, 6, none⟩ = some (.int .i64 0) := N3.out.cell 6
    have z6 : w3.frozen? ⟨gn, 6, none⟩ = false := N3.out.frozen 6
    have u2 : IntKind.u64.wrap ((d : Int) - (f : Int)) = (d : Int) - (f : Int) := by rw [IntKind.wrap_u64]; omega
    have u3 : IntKind.i64.wrap ((d : Int) - (f : Int)) = (d : Int) - (f : Int) := by rw [IntKind.wrap_i64]; omega
    cases kb with
    | false =>
      have HRES : Hid (headP b f t = none) := hide (by rw [HV.out, HHF.out, if_neg (fun h => Bool.noConfusion h.1)])
      clear HV
      go_quiet ((go_at_call 97; exact quiet_left (HIK.out _)))
      go_wp2_with fail
      refine gen_bod fun w9 h9 => ?_
      have T9 : Tw w w9 gn none := by rw [h9]; (repeat' (first | (with_reducible exact T3.out) | (with_reducible refine Tw.drewN ?_ _) | (with_reducible refine Tw.trans ?_ (Tw.set_ _ _ _ _ _))))
      clear h9
      go_ret
      exact HeadGives.no HRES.out T9
    | true =>
      by_cases hs1 : (t-f) < d - f
      · omega
      have g1 : decide (((t : Int) - (f : Int)) < (d : Int) - (f : Int)) = false := by simp; omega
      by_cases hs2 : t - f < (t-f)
      · omega
      have g2 : decide ((t : Int) - (f : Int) < ((t : Int) - (f : Int))) = false := by first | (simp; done) | (simp; omega)
      have g3 : decide ((t : Int) < (d : Int)) = false := by simp; omega
      have g4 : decide (t < d) = false := by simp; omega
      have v1 : IntKind.i64.wrap (((t : Int) - (f : Int))) = ((t : Int) - (f : Int)) := by rw [IntKind.wrap_i64]; omega
      have hs3 : ((t : Int) - (f : Int)) ≤ 1000000 := by omega
      obtain ⟨x, hx⟩ : ∃ x : Nat, x = f + ((t-f)) := ⟨_, rfl⟩
      have HRES : Hid (headP b f t = some (cutB b (f + 4) (f + 8), 2, d, x)) := hide (by rw [HV.out, HHF.out, if_pos ⟨rfl, by omega, by omega⟩, hx])
      have HX := hide hx
      clear hx hs1 hs2
      go_quiet ((go_at_call 97; exact quiet_left (HIK.out _)))
      go_wp2_with fail
      refine gen_bod fun w9 h9 => ?_
      have T9 : Tw w w9 gn none := by rw [h9]; (repeat' (first | (with_reducible exact T3.out) | (with_reducible refine Tw.drewN ?_ _) | (with_reducible refine Tw.trans ?_ (Tw.set_ _ _ _ _ _))))
      have N9 : Blk w9 gn 109 #[.string ⟨(cutB b (f + 4) (f + 8)).toArray⟩, .int .i64 2, .slice none 0 0, .slice none 0 0, .int .i64 (f : Int), .int .i64 (d : Int), .int .i64 (x : Int), .slice none 0 0] := by rw [h9, show (x : Int) = (f : Int) + (((t : Int) - (f : Int))) by have := HX.out; omega]; first | exact (N3.out.drewN _).set_ 6 _ | exact (N3.out.set_ 6 _).drewN _
      clear h9
      go_ret
      exact HeadGives.yes HRES.out T9 N9
  · have j1 : ((q : Int) == 1) = false := by simp; omega
    have j0 : ((q : Int) == 0) = false := by simp; omega
    have HV : Hid (headP b f t = headF (cutB b (f + 4) (f + 8)) 0 f (t - f) (f + 8) q) := hide (by rw [HV.out, if_neg hq1, if_neg hq0])
    clear hq1 hq0 hr2
    go_wp2_with fail
    refine gen_wpC fun w3 h3 => ?_
    obtain ⟨d, hd⟩ : ∃ d : Nat, d = f + 8 := ⟨_, rfl⟩
    have N3 : Hid (Blk w3 gn 109 #[.string ⟨(cutB b (f + 4) (f + 8)).toArray⟩, .int .i64 0, .slice none 0 0, .slice none 0 0, .int .i64 (f : Int), .int .i64 (d : Int), .int .i64 0, .slice none 0 0]) := hide (by rw [h3, show (d : Int) = (f : Int) + 8 by omega]; exact (N2.out.set_ 0 _).set_ 5 _)
    have T3 : Hid (Tw w w3 gn none) := hide (by rw [h3]; (repeat' (first | (with_reducible exact T0.out) | (with_reducible refine Tw.trans ?_ (Tw.set_ _ _ _ _ _)))))
    have P3 := hide (T3.out.blk P0.out hg (by simp))
    have HV : Hid (headP b f t = headF (cutB b (f + 4) (f + 8)) 0 f (t - f) d q) := hide (by rw [HV.out, hd])
    have hd1 : f + 8 ≤ d := by omega
    have hd2 : d ≤ f + 8 := by omega
    clear h3 hd p0 c0 z0 c1 z1 c2 z2 c3 z3 c4 z4 c5 z5 c6 z6 c7 z7 N2 P2 X2
    have c0 : w3.cell? ⟨gn, 0, none⟩ = some (.string ⟨(cutB b (f + 4) (f + 8)).toArray⟩) := N3.out.cell 0
    have c4 : w3.cell? ⟨gn, 4, none⟩ = some (.int .i64 (f : Int)) := N3.out.cell 4
    have c5 : w3.cell? ⟨gn, 5, none⟩ = some (.int .i64 (d : Int)) := N3.out.cell 5
    have c6 : w3.cell? ⟨gn, 6, none⟩ = some (.int .i64 0) := N3.out.cell 6
    have z6 : w3.frozen? ⟨gn, 6, none⟩ = false := N3.out.frozen 6
    have u2 : IntKind.u64.wrap ((d : Int) - (f : Int)) = (d : Int) - (f : Int) := by rw [IntKind.wrap_u64]; omega
    have u3 : IntKind.i64.wrap ((d : Int) - (f : Int)) = (d : Int) - (f : Int) := by rw [IntKind.wrap_i64]; omega
    cases kb with
    | false =>
      have HRES : Hid (headP b f t = none) := hide (by rw [HV.out, HHF.out, if_neg (fun h => Bool.noConfusion h.1)])
      clear HV
      go_quiet ((go_at_call 97; exact quiet_left (HIK.out _)))
      go_wp2_with fail
      refine gen_bod fun w9 h9 => ?_
      have T9 : Tw w w9 gn none := by rw [h9]; (repeat' (first | (with_reducible exact T3.out) | (with_reducible refine Tw.drewN ?_ _) | (with_reducible refine Tw.trans ?_ (Tw.set_ _ _ _ _ _))))
      clear h9
      go_ret
      exact HeadGives.no HRES.out T9
    | true =>
      by_cases hs1 : q < d - f
      · have g1 : decide ((q : Int) < (d : Int) - (f : Int)) = true := by simp; omega
        have HRES : Hid (headP b f t = none) := hide (by rw [HV.out, HHF.out, if_neg (fun h => by have := h.2.1; omega)])
        clear HV hs1
        go_quiet ((go_at_call 97; exact quiet_left (HIK.out _)))
        go_wp2_with fail
        refine gen_bod fun w9 h9 => ?_
        have T9 : Tw w w9 gn none := by rw [h9]; (repeat' (first | (with_reducible exact T3.out) | (with_reducible refine Tw.drewN ?_ _) | (with_reducible refine Tw.trans ?_ (Tw.set_ _ _ _ _ _))))
        clear h9
        go_ret
        exact HeadGives.no HRES.out T9
      have g1 : decide ((q : Int) < (d : Int) - (f : Int)) = false := by simp; omega
      by_cases hs2 : t - f < q
      · have g2 : decide ((t : Int) - (f : Int) < (q : Int)) = true := by simp; omega
        have HRES : Hid (headP b f t = none) := hide (by rw [HV.out, HHF.out, if_neg (fun h => by have := h.2.2; omega)])
        clear HV hs1 hs2
        go_quiet ((go_at_call 97; exact quiet_left (HIK.out _)))
        go_wp2_with fail
        refine gen_bod fun w9 h9 => ?_
        have T9 : Tw w w9 gn none := by rw [h9]; (repeat' (first | (with_reducible exact T3.out) | (with_reducible refine Tw.drewN ?_ _) | (with_reducible refine Tw.trans ?_ (Tw.set_ _ _ _ _ _))))
        clear h9
        go_ret
        exact HeadGives.no HRES.out T9
      have g2 : decide ((t : Int) - (f : Int) < (q : Int)) = false := by first | (simp; done) | (simp; omega)
      have v1 : IntKind.i64.wrap ((q : Int)) = (q : Int) := by rw [IntKind.wrap_i64]; omega
      have hs3 : (q : Int) ≤ 1000000 := by omega
      obtain ⟨x, hx⟩ : ∃ x : Nat, x = f + (q) := ⟨_, rfl⟩
      have HRES : Hid (headP b f t = some (cutB b (f + 4) (f + 8), 0, d, x)) := hide (by rw [HV.out, HHF.out, if_pos ⟨rfl, by omega, by omega⟩, hx])
      have HX := hide hx
      clear hx hs1 hs2
      go_quiet ((go_at_call 97; exact quiet_left (HIK.out _)))
      go_wp2_with fail
      refine gen_bod fun w9 h9 => ?_
      have T9 : Tw w w9 gn none := by rw [h9]; (repeat' (first | (with_reducible exact T3.out) | (with_reducible refine Tw.drewN ?_ _) | (with_reducible refine Tw.trans ?_ (Tw.set_ _ _ _ _ _))))
      have N9 : Blk w9 gn 109 #[.string ⟨(cutB b (f + 4) (f + 8)).toArray⟩, .int .i64 0, .slice none 0 0, .slice none 0 0, .int .i64 (f : Int), .int .i64 (d : Int), .int .i64 (x : Int), .slice none 0 0] := by rw [h9, show (x : Int) = (f : Int) + ((q : Int)) by have := HX.out; omega]; first | exact (N3.out.drewN _).set_ 6 _ | exact (N3.out.set_ 6 _).drewN _
      clear h9
      go_ret
      exact HeadGives.yes HRES.out T9 N9
end Go.Proofs.Ytlonhkjplijlcaa
namespace Go.Proofs.Ytlonhkjplijlcaa
open Go.RowKit
section
variable {P : Program} {ops : Array Oper} {Q : Exit → Act → World → Prop} {md : Region.Mode} {S : World → Prop} {z : Nat}
/-- Whatever order is picked, with S kept behind each operation until number z has come up. -/
def AnyZ (P : Program) (md : Region.Mode) (ops : Array Oper) (Q : Exit → Act → World → Prop) (S : World → Prop) (z : Nat) : Nat → Array Bool → Act → World → Prop
  | 0, L, a, w => Region.ready md ops L = [] ∧ Q .normal a w
  | n + 1, L, a, w => (Region.ready md ops L = [] → Q .normal a w) ∧
    ∀ i ∈ Region.ready md ops L, wpOp P ops Q i (fun a' w' => ((L.setIfInBounds i true).getD z true = false → S w') ∧ AnyZ P md ops Q S z n (L.setIfInBounds i true) a' w') a w

theorem AnyZ.any : ∀ (n : Nat) (L : Array Bool) (a : Act) (w : World), AnyZ P md ops Q S z n L a w → wpAny P md ops Q n L a w
  | 0, _, _, _, h => h
  | n + 1, _, _, _, ⟨h0, h1⟩ => ⟨h0, fun i hi => wpOp_mono (fun a' w' h' => AnyZ.any n _ a' w' h'.2) (h1 i hi)⟩

theorem AnyZ.first {i : Nat} {oi oz : Oper} {v : Value} (hi : ops[i]? = some oi) (hz : ops[z]? = some oz) (hzi : ∃ e ∈ oz.after, Region.binds md e = true ∧ e.on = i) (hne : z ≠ i)
    (hsel : ∀ (j : Nat) (o : Oper) cs b, ops[j]? = some o → o.op ≠ .select cs b)
    (hQ : ∀ c a w, Q (.panic c) (a.put oi.dst v) w → Q (.panic c) a w) :
    ∀ (n : Nat) (L : Array Bool) (a : Act) (w : World),
      (∀ j oj, ops[j]? = some oj → j ≠ i → L.getD j true = false → (∀ e ∈ oj.after, Region.binds md e = true → e.on ≠ i) → oi.apart ops oj = true) →
      i ∈ Region.ready md ops L → L.getD z true = false → YieldsIf P ops S oi v a → S w →
      AnyZ P md ops Q S z n (L.setIfInBounds i true) (a.put oi.dst v) w → AnyZ P md ops Q S z (n + 1) L a w
  | 0, L, a, w, _, hr, _, hy, hS, H => by
    refine ⟨fun h => absurd hr (by simp [h]), fun j hj => ?_⟩
    by_cases hji : j = i
    · subst hji
      exact hy.wpOp hi hS ⟨fun _ => hS, H⟩
    · exact absurd (ready_mono hj hji) (by simp [H.1])
  | n + 1, L, a, w, hf, hr, hL, hy, hS, H => by
    refine ⟨fun h => absurd hr (by simp [h]), fun j hj => ?_⟩
    by_cases hji : j = i
    · subst hji
      exact hy.wpOp hi hS ⟨fun _ => hS, H⟩
    obtain ⟨hu, oj, hoj, hall⟩ := mem_ready.1 hj
    have hin : ∀ e ∈ oj.after, Region.binds md e = true → e.on ≠ i := fun e he hb hq => by
      have hdone := hall e he hb
      have hopen := (mem_ready.1 hr).1
      rw [hq] at hdone
      by_cases hs : i < L.size
      · simp [hs] at hdone hopen
        rw [hdone] at hopen
        cases hopen
      · simp [hs] at hdone
    have hjz : j ≠ z := fun h => by
      subst h
      obtain ⟨e, he, hb, hq⟩ := hzi
      rw [hz] at hoj
      injection hoj with hoj
      subst hoj
      exact hin e he hb hq
    have hLz : (L.setIfInBounds j true).getD z true = false := by rw [getD_set_ne true hjz]; exact hL
    have hLz2 : ((L.setIfInBounds i true).setIfInBounds j true).getD z true = false := by
      rw [getD_set_ne true hjz, getD_set_ne true (Ne.symm hne)]; exact hL
    have st := wpOp_putIf hoj (hf j oj hoj hji hu hin) (fun cs b => hsel i oi cs b hi) (fun cs b => hsel j oj cs b hoj) hQ hy (H.2 j (ready_mono hj hji))
    refine wpOp_mono (fun a' w' ⟨hy', hS', hr'⟩ => ?_) st
    have hSw := hS' hLz2
    refine ⟨fun _ => hSw, AnyZ.first hi hz hzi hne hsel hQ n _ a' w' (fun k ok hk hki hun hno => hf k ok hk hki ?_ hno) (ready_mono hr (Ne.symm hji)) hLz hy' hSw ?_⟩
    · by_cases hjk : j = k
      · subst hjk; exact hu
      · rwa [getD_set_ne true hjk] at hun
    · rw [Array.setIfInBounds_comm _ _ hji]
      exact hr'

theorem AnyZ.take {i : Nat} {oi oz : Oper} {v : Value} {n : Nat} {L : Array Bool} {a : Act} {w : World} (hi : ops[i]? = some oi) (hz : ops[z]? = some oz)
    (hzi : (oz.after.any fun e => Region.binds md e && e.on == i) = true) (hne : (z == i) = false) (hs : Region.noSelect ops = true) (hf : Region.free md ops L i = true) (hr : (Region.ready md ops L).contains i = true) (hLz : L.getD z true = false)
    (hQ : ∀ c a w, Q (.panic c) (a.put oi.dst v) w → Q (.panic c) a w) (hy : YieldsIf P ops S oi v a) (hS : S w)
    (h : AnyZ P md ops Q S z n (L.setIfInBounds i true) (a.put oi.dst v) w) : AnyZ P md ops Q S z (n + 1) L a w :=
  AnyZ.first hi hz (by
    obtain ⟨e, he, h⟩ := Array.any_eq_true'.1 hzi
    simp only [Bool.and_eq_true, beq_iff_eq] at h
    exact ⟨e, he, h⟩) (by simpa using hne) (Region.noSelect_spec hs) hQ n L a w (Region.free_spec hi hf) (by simpa using hr) hLz hy hS h

/-- The one operation that may come up comes up. -/
theorem AnyZ.one {i : Nat} {n : Nat} {L : Array Bool} {a : Act} {w : World} (hr : Region.ready md ops L = [i])
    (h : wpOp P ops Q i (fun a' w' => ((L.setIfInBounds i true).getD z true = false → S w') ∧ AnyZ P md ops Q S z n (L.setIfInBounds i true) a' w') a w) : AnyZ P md ops Q S z (n + 1) L a w :=
  ⟨fun h0 => absurd h0 (by simp [hr]), by rw [hr]; simpa using h⟩

/-- The one operation that may come up comes up, handed over behind a letter. -/
theorem AnyZ.step {i : Nat} {n : Nat} {o : Oper} {L : Array Bool} {a : Act} {w : World} (ho : ops[i]? = some o) (hr : Region.ready md ops L = [i])
    (h : ∀ K : Act → World → Prop, Shut (∀ a' w', ((L.setIfInBounds i true).getD z true = false → S w') → AnyZ P md ops Q S z n (L.setIfInBounds i true) a' w' → K a' w') → if Region.wanted o (yielded ops a.tmps) = true then Oper.wp P o a w K Q else K (a.put o.dst undef) w) : AnyZ P md ops Q S z (n + 1) L a w :=
  AnyZ.one hr (wpOp_step ho fun K hK => h K fun a' w' hS hA => hK a' w' ⟨hS, hA⟩)

theorem AnyZ.done {L : Array Bool} {a : Act} {w : World} (hr : Region.ready md ops L = []) (h : Q .normal a w) : ∀ n, AnyZ P md ops Q S z n L a w
  | 0 => ⟨hr, h⟩
  | _ + 1 => ⟨fun _ => h, by rw [hr]; simp⟩

theorem region_z {id : Nat} {a : Act} {w : World} (z : Nat) (hm : P.follows .mixedOrders = true)
    (h : AnyZ P .any ops Q S z ops.size (Array.replicate ops.size false) a { w with drawn := w.drawn + 1 }) : (Code.region id ops true).wp P Q a w :=
  wp_region_any hm (AnyZ.any _ _ _ _ h)
end
end Go.Proofs.Ytlonhkjplijlcaa
namespace Go.Proofs.Ytlonhkjplijlcaa
open Go.RowKit
/-- The cell of a slice within a slice. -/
abbrev eH (h : Option Addr × Nat × Nat) : List Value := [.slice h.1 h.2.1 h.2.2]
/-- The slice value '.slice A n c' holds slices that read as the lists of xs. -/
structure Rws (w : World) (A : Option Addr) (n c : Nat) (xs : List (List Int)) : Prop where
  len : xs.length = n
  rows : ∃ hs : List (Option Addr × Nat × Nat), At w 1 eH A n c hs ∧ ∀ k, k < n → At w 1 e64 (hs.getD k (none, 0, 0)).1 (hs.getD k (none, 0, 0)).2.1 (hs.getD k (none, 0, 0)).2.2 (xs.getD k [])
section
variable {w w' : World} {A : Option Addr} {n c : Nat} {xs : List (List Int)}
theorem Rws.ext (h : Rws w A n c xs) (he : Ext w w') : Rws w' A n c xs := by
  obtain ⟨hl, hs, h1, h2⟩ := h
  exact ⟨hl, hs, h1.ext he, fun k hk => (h2 k hk).ext he⟩
theorem Rws.bound (h : Rws w A n c xs) : n ≤ 9223372036854775807 := by
  obtain ⟨hl, hs, h1, h2⟩ := h
  exact h1.bound
theorem Rws.addr (h : Rws w A n c xs) (hn : 0 < n) : ∃ b off, A = some ⟨b, off, none⟩ := by
  obtain ⟨hl, hs, h1, h2⟩ := h
  obtain ⟨b, off, e, _⟩ := h1.addr hn
  exact ⟨b, off, e⟩
theorem Rws.row {b off : Nat} (h : Rws w (some ⟨b, off, none⟩) n c xs) {k : Nat} (hk : k < n) :
    ∃ A' n' c', w.cell? ⟨b, off + k, none⟩ = some (.slice A' n' c') ∧ At w 1 e64 A' n' c' (xs.getD k []) := by
  obtain ⟨hl, hs, h1, h2⟩ := h
  have hh := h1.len
  obtain ⟨b', off', e, hc⟩ := h1.cells k _ (List.getElem?_eq_getElem (by omega))
  injection e with e
  injection e with e1 e2
  subst e1 e2
  have := hc 0 _ rfl
  have hg := h2 k hk
  rw [show hs.getD k (none, 0, 0) = hs[k]'(by omega) by simp [List.getD, show k < hs.length by omega]] at hg
  exact ⟨_, _, _, by simpa using this, hg⟩
end
end Go.Proofs.Ytlonhkjplijlcaa
namespace Go.Proofs.Ytlonhkjplijlcaa
open Go.RowKit
section
variable {P : Program} {ops : Array Oper} {Q : Exit → Act → World → Prop} {md : Region.Mode} {S : World → Prop} {z : Nat}
/-- An operation that yields its value in whatever world is taken first, before or behind z. -/
theorem AnyZ.firstP {i : Nat} {oi : Oper} {v : Value} (hi : ops[i]? = some oi) (hne : z ≠ i)
    (hsel : ∀ (j : Nat) (o : Oper) cs b, ops[j]? = some o → o.op ≠ .select cs b)
    (hQ : ∀ c a w, Q (.panic c) (a.put oi.dst v) w → Q (.panic c) a w) :
    ∀ (n : Nat) (L : Array Bool) (a : Act) (w : World),
      (∀ j oj, ops[j]? = some oj → j ≠ i → L.getD j true = false → (∀ e ∈ oj.after, Region.binds md e = true → e.on ≠ i) → oi.apart ops oj = true) →
      i ∈ Region.ready md ops L → YieldsIf P ops (fun _ => True) oi v a → (L.getD z true = false → S w) →
      AnyZ P md ops Q S z n (L.setIfInBounds i true) (a.put oi.dst v) w → AnyZ P md ops Q S z (n + 1) L a w
  | 0, L, a, w, _, hr, hy, hS, H => by
    refine ⟨fun h => absurd hr (by simp [h]), fun j hj => ?_⟩
    by_cases hji : j = i
    · subst hji
      exact hy.wpOp hi trivial ⟨fun h => hS (by rwa [getD_set_ne true (Ne.symm hne)] at h), H⟩
    · exact absurd (ready_mono hj hji) (by simp [H.1])
  | n + 1, L, a, w, hf, hr, hy, hS, H => by
    refine ⟨fun h => absurd hr (by simp [h]), fun j hj => ?_⟩
    by_cases hji : j = i
    · subst hji
      exact hy.wpOp hi trivial ⟨fun h => hS (by rwa [getD_set_ne true (Ne.symm hne)] at h), H⟩
    obtain ⟨hu, oj, hoj, hall⟩ := mem_ready.1 hj
    have hin : ∀ e ∈ oj.after, Region.binds md e = true → e.on ≠ i := fun e he hb hq => by
      have hdone := hall e he hb
      have hopen := (mem_ready.1 hr).1
      rw [hq] at hdone
      by_cases hs : i < L.size
      · simp [hs] at hdone hopen
        rw [hdone] at hopen
        cases hopen
      · simp [hs] at hdone
    have st := wpOp_putIf hoj (hf j oj hoj hji hu hin) (fun cs b => hsel i oi cs b hi) (fun cs b => hsel j oj cs b hoj) hQ hy (H.2 j (ready_mono hj hji))
    refine wpOp_mono (fun a' w' ⟨hy', hS', hr'⟩ => ?_) st
    have hSw : (L.setIfInBounds j true).getD z true = false → S w' := fun h => hS' (by rw [Array.setIfInBounds_comm _ _ (Ne.symm hji), getD_set_ne true (Ne.symm hne)]; exact h)
    refine ⟨hSw, AnyZ.firstP hi hne hsel hQ n _ a' w' (fun k ok hk hki hun hno => hf k ok hk hki ?_ hno) (ready_mono hr (Ne.symm hji)) hy' hSw ?_⟩
    · by_cases hjk : j = k
      · subst hjk; exact hu
      · rwa [getD_set_ne true hjk] at hun
    · rw [Array.setIfInBounds_comm _ _ hji]
      exact hr'
theorem AnyZ.takeP {i : Nat} {oi : Oper} {v : Value} {n : Nat} {L : Array Bool} {a : Act} {w : World} (hi : ops[i]? = some oi)
    (hne : (z == i) = false) (hs : Region.noSelect ops = true) (hf : Region.free md ops L i = true) (hr : (Region.ready md ops L).contains i = true)
    (hQ : ∀ c a w, Q (.panic c) (a.put oi.dst v) w → Q (.panic c) a w) (hy : YieldsIf P ops (fun _ => True) oi v a) (hS : S w)
    (h : AnyZ P md ops Q S z n (L.setIfInBounds i true) (a.put oi.dst v) w) : AnyZ P md ops Q S z (n + 1) L a w :=
  AnyZ.firstP hi (by simpa using hne) (Region.noSelect_spec hs) hQ n L a w (Region.free_spec hi hf) (by simpa using hr) hy (fun _ => hS) h
/-- All operations of a list, one goal each. -/
def AllZ (P : Program) (md : Region.Mode) (ops : Array Oper) (Q : Exit → Act → World → Prop) (S : World → Prop) (z n : Nat) (L : Array Bool) (a : Act) (w : World) : List Nat → Prop
  | [] => True
  | i :: r => wpOp P ops Q i (fun a' w' => ((L.setIfInBounds i true).getD z true = false → S w') ∧ AnyZ P md ops Q S z n (L.setIfInBounds i true) a' w') a w ∧ AllZ P md ops Q S z n L a w r
theorem AllZ.mem {n : Nat} {L : Array Bool} {a : Act} {w : World} : ∀ {r : List Nat}, AllZ P md ops Q S z n L a w r → ∀ i ∈ r, wpOp P ops Q i (fun a' w' => ((L.setIfInBounds i true).getD z true = false → S w') ∧ AnyZ P md ops Q S z n (L.setIfInBounds i true) a' w') a w
  | [], _, i, hi => by cases hi
  | j :: r, h, i, hi => by
    rcases List.mem_cons.1 hi with rfl | hi
    · exact h.1
    · exact h.2.mem i hi
theorem AnyZ.many {n : Nat} {L : Array Bool} {a : Act} {w : World} {i : Nat} {r : List Nat} (hr : Region.ready md ops L = i :: r) (h : AllZ P md ops Q S z n L a w (i :: r)) : AnyZ P md ops Q S z (n + 1) L a w :=
  ⟨fun h0 => absurd h0 (by simp [hr]), by rw [hr]; exact h.mem⟩
theorem AllZ.cons {i : Nat} {n : Nat} {o : Oper} {L : Array Bool} {a : Act} {w : World} {r : List Nat} (ho : ops[i]? = some o)
    (h : ∀ K : Act → World → Prop, Shut (∀ a' w', ((L.setIfInBounds i true).getD z true = false → S w') → AnyZ P md ops Q S z n (L.setIfInBounds i true) a' w' → K a' w') → if Region.wanted o (yielded ops a.tmps) = true then Oper.wp P o a w K Q else K (a.put o.dst undef) w)
    (hr : AllZ P md ops Q S z n L a w r) : AllZ P md ops Q S z n L a w (i :: r) :=
  ⟨wpOp_step ho fun K hK => h K fun a' w' hS hA => hK a' w' ⟨hS, hA⟩, hr⟩
theorem gen_z {n : Nat} {L : Array Bool} {a : Act} {w : World} (h : ∀ W, W = w → AnyZ P md ops Q S z n L a W) : AnyZ P md ops Q S z n L a w := h w rfl
end
end Go.Proofs.Ytlonhkjplijlcaa
namespace Go.Proofs.Ytlonhkjplijlcaa
open Go.RowKit
theorem AnyZ.takeE {P : Program} {ops : Array Oper} {Q : Exit → Act → World → Prop} {md : Region.Mode} {S : World → Prop} {z : Nat} {i d : Nat} {oi oz : Oper} {v : Value} {n : Nat} {L : Array Bool} {a : Act} {w : World} (hi : ops[i]? = some oi) (hd : oi.dst = some d) (hz : ops[z]? = some oz)
    (hzi : (oz.after.any fun e => Region.binds md e && e.on == i) = true) (hne : (z == i) = false) (hs : Region.noSelect ops = true) (hf : Region.free md ops L i = true) (hr : (Region.ready md ops L).contains i = true) (hLz : L.getD z true = false)
    (hQ : ∀ c a w, Q (.panic c) (a.put oi.dst v) w → Q (.panic c) a w) (hy : YieldsIf P ops S oi v a) (hS : S w)
    (h : AnyZ P md ops Q S z n (L.setIfInBounds i true) (a.put (some d) v) w) : AnyZ P md ops Q S z (n + 1) L a w :=
  AnyZ.take hi hz hzi hne hs hf hr hLz hQ hy hS (by rw [hd]; exact h)
theorem AnyZ.takePE {P : Program} {ops : Array Oper} {Q : Exit → Act → World → Prop} {md : Region.Mode} {S : World → Prop} {z : Nat} {i d : Nat} {oi : Oper} {v : Value} {n : Nat} {L : Array Bool} {a : Act} {w : World} (hi : ops[i]? = some oi) (hd : oi.dst = some d)
    (hne : (z == i) = false) (hs : Region.noSelect ops = true) (hf : Region.free md ops L i = true) (hr : (Region.ready md ops L).contains i = true)
    (hQ : ∀ c a w, Q (.panic c) (a.put oi.dst v) w → Q (.panic c) a w) (hy : YieldsIf P ops (fun _ => True) oi v a) (hS : S w)
    (h : AnyZ P md ops Q S z n (L.setIfInBounds i true) (a.put (some d) v) w) : AnyZ P md ops Q S z (n + 1) L a w :=
  AnyZ.takeP hi hne hs hf hr hQ hy hS (by rw [hd]; exact h)
/-- The same behind z. -/
theorem AnyZ.takeZE {P : Program} {ops : Array Oper} {Q : Exit → Act → World → Prop} {md : Region.Mode} {S : World → Prop} {z : Nat} {i d : Nat} {oi : Oper} {v : Value} {n : Nat} {L : Array Bool} {a : Act} {w : World} (hi : ops[i]? = some oi) (hd : oi.dst = some d)
    (hne : (z == i) = false) (hs : Region.noSelect ops = true) (hf : Region.free md ops L i = true) (hr : (Region.ready md ops L).contains i = true) (hLz : L.getD z true = true)
    (hQ : ∀ c a w, Q (.panic c) (a.put oi.dst v) w → Q (.panic c) a w) (hy : YieldsIf P ops (fun _ => True) oi v a)
    (h : AnyZ P md ops Q S z n (L.setIfInBounds i true) (a.put (some d) v) w) : AnyZ P md ops Q S z (n + 1) L a w :=
  AnyZ.firstP hi (by simpa using hne) (Region.noSelect_spec hs) hQ n L a w (Region.free_spec hi hf) (by simpa using hr) hy (fun h0 => by rw [hLz] at h0; cases h0) (by rw [hd]; exact h)
end Go.Proofs.Ytlonhkjplijlcaa
namespace Go.Proofs.Ytlonhkjplijlcaa
open Go.RowKit
theorem Own.where_ {α : Type} {w : World} {base : Nat} {t : TypeId} {sz : Nat} {enc : α → List Value} {A : Option Addr} {n c : Nat} {xs : List α} (h : Own w base t sz enc (.slice A n c) xs) (hn : 0 < n) (hl : xs.length = n) :
    ∃ g, A = some ⟨g, 0, none⟩ ∧ base ≤ g ∧ g < w.heap.size := by
  unfold Own at h
  rw [hl] at h
  obtain ⟨g, cap, hv, hb, hg⟩ := World.ownsRow.form h hn
  injection hv with h1 h2 h3
  exact ⟨g, h1, hb, hg⟩
theorem Own.row1 {α : Type} {w : World} {base : Nat} {t : TypeId} {enc : α → List Value} {g n c : Nat} {xs : List α} (h : Own w base t 1 enc (.slice (some ⟨g, 0, none⟩) n c) xs) :
    ∃ cur, Blk w g t cur ∧ n ≤ c ∧ c ≤ maxLen ∧ cur.size = c ∧ xs.length = n ∧ cur.toList.take n = xs.flatMap enc ∧ base ≤ g := by
  obtain ⟨h0, h⟩ := h
  rcases h with ⟨hv, _⟩ | ⟨g', cap, cur, hv, hb, hg, hnc, hcm, hcs, ht⟩
  · cases hv
  · injection hv with h1 h2 h3
    injection h1 with h1
    injection h1 with h1
    subst h1 h3
    exact ⟨cur, hg, by omega, hcm, by omega, h2.symm, by rw [h2]; rw [← ht, Nat.mul_one], hb⟩
theorem flat_set {α : Type} {enc : α → List Value} (hsz : ∀ x, (enc x).length = 1) : ∀ (xs : List α) (k : Nat) (x : α) (u : Value), enc x = [u] → (xs.flatMap enc).set k u = (xs.set k x).flatMap enc
  | [], _, _, _, _ => rfl
  | y :: ys, 0, x, u, hu => by
    have hy := hsz y
    rw [List.set_cons_zero, List.flatMap_cons, List.flatMap_cons, hu]
    match h : enc y, hy with
    | [v], _ => rfl
  | y :: ys, k + 1, x, u, hu => by
    have hy := hsz y
    rw [List.set_cons_succ, List.flatMap_cons, List.flatMap_cons, ← flat_set hsz ys k x u hu]
    match h : enc y, hy with
    | [v], _ => rfl
/-- An element of one cell is stored anew. -/
theorem Own.set1 {α : Type} {w : World} {base : Nat} {t : TypeId} {enc : α → List Value} {g n c : Nat} {xs : List α} (hsz : ∀ x, (enc x).length = 1) (h : Own w base t 1 enc (.slice (some ⟨g, 0, none⟩) n c) xs) (k : Nat) (x : α) (u : Value) (hu : enc x = [u]) :
    Own (w.setCell ⟨g, k, none⟩ u) base t 1 enc (.slice (some ⟨g, 0, none⟩) n c) (xs.set k x) := by
  obtain ⟨cur, hg, hnc, hcm, hcs, hl, ht, hb⟩ := h.row1
  refine ⟨by rw [flat_len hsz], .inr ⟨g, c, _, by rw [List.length_set, hl], hb, hg.set_ k u, by rw [List.length_set, hl]; exact hnc, hcm, by simp [hcs], ?_⟩⟩
  rw [List.length_set, hl, Nat.mul_one, Array.toList_setIfInBounds, List.take_set, ht]
  exact flat_set hsz xs k x u hu
end Go.Proofs.Ytlonhkjplijlcaa
