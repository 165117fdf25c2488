/- Several texts in one: Walks: tableBytes, TableBytes (reference). Conditions as stated; Walk: runs of the program's source. Conditions as stated. -/
import Derived.Test.YtlonhkjplijlcaaMwf17
import Derived.Test.YtlonhkjplijlcaaMwf22
import Derived.Test.YtlonhkjplijlcaaMwf24
import Derived.Test.YtlonhkjplijlcaaMwf10
import Derived.StillTailTactics
namespace Go.Proofs.Ytlonhkjplijlcaa
open Go.RowKit
set_option linter.unusedVariables false in
set_option linter.unusedSimpArgs false in
set_option maxRecDepth 100000 in
set_option maxHeartbeats 16000000 in
theorem refTableBytes_in {sA : Option Addr} {sn sc : Nat} {hA : Option Addr} {hn hc : Nat} {zA : Option Addr} {zn zc : Nat} {kA : Option Addr} {kn kc : Nat} {cA : Option Addr} {cn cc : Nat} {pA : Option Addr} {pn pc : Nat} {t : Tab} {w : World} (h : TabAt w sA sn sc hA hn hc zA zn zc kA kn kc cA cn cc pA pn pc t) (hf : TabFw sn hn zn kn cn pn) :
    Calls Try.prog 52 #[.agg #[.int .i64 t.start, .slice sA sn sc, .slice hA hn hc, .slice zA zn zc, .slice kA kn kc, .slice cA cn cc, .slice pA pn pc]] w (NewB w (tabBy t)) := by
  obtain ⟨st, S, SH, Z, K, nok, C, P⟩ := t
  simp only at h ⊢
  obtain ⟨f1, f2, f3, f4, f5, f6⟩ := hf
  have LS : S.length = sn := h.steps.len
  have LH : SH.length = hn := h.shifts.len
  have LZ : Z.length = zn := h.sizes.len
  have LK : K.length = kn := h.keys.len
  have LC : C.length = cn := h.chunks.len
  have LP : P.length = pn := h.places.len
  obtain ⟨p0, hp0⟩ : ∃ p, p = beN 8 (u64N st) := ⟨_, rfl⟩
  obtain ⟨p1, hp1⟩ : ∃ p, p = liB S.length (rnN S) := ⟨_, rfl⟩
  obtain ⟨p2, hp2⟩ : ∃ p, p = liB SH.length (rnN SH) := ⟨_, rfl⟩
  obtain ⟨p3, hp3⟩ : ∃ p, p = liB Z.length Z := ⟨_, rfl⟩
  obtain ⟨p4, hp4⟩ : ∃ p, p = keyB nok K := ⟨_, rfl⟩
  obtain ⟨p6, hp6⟩ : ∃ p, p = liB P.length P := ⟨_, rfl⟩
  have HTB : Hid (tabBy ⟨st, S, SH, Z, K, nok, C, P⟩ = p0 ++ p1 ++ p2 ++ p3 ++ p4 ++ liB C.length (rnN C) ++ p6) := hide (by rw [hp0, hp1, hp2, hp3, hp4, hp6]; rfl)
  have q0 : p0.length = 8 := by rw [hp0]; exact beN_len _ _
  have q1 : p1.length ≤ 100000 := by rw [hp1, liB_len, rnN_len]; omega
  have q2 : p2.length ≤ 100000 := by rw [hp2, liB_len, rnN_len]; omega
  have q3 : p3.length ≤ 100000 := by rw [hp3, liB_len]; omega
  have q4 : p4.length ≤ 100000 := by rw [hp4]; have := keyB_len nok K; omega
  have q5 : ∀ k, (liB C.length (rnN (C.take k))).length ≤ 100000 := fun k => by rw [liB_len, rnN_len, List.length_take]; omega
  have q6 : p6.length ≤ 100000 := by rw [hp6, liB_len]; omega
  have HQ := hide (And.intro q0 (And.intro q1 (And.intro q2 (And.intro q3 (And.intro q4 (And.intro q5 q6))))))
  have HLC := hide LC
  have HNK := hide h.nok
  have HP4 := hide hp4
  have HH := hide h
  have E0 := hide (Ext.alloc w (.cells #[.int .i64 st, .slice sA sn sc, .slice hA hn hc, .slice zA zn zc, .slice kA kn kc, .slice cA cn cc, .slice pA pn pc] 73))
  have X0 := hide (Blk.new w 73 #[.int .i64 st, .slice sA sn sc, .slice hA hn hc, .slice zA zn zc, .slice kA kn kc, .slice cA cn cc, .slice pA pn pc])
  have e1 := fun (W : World) => Lib.run_eql_slice_nil (P := Try.prog) W 70 3 kA kn kc 0 0 Try.underlying70
  have HW0 := hide (fun (W : World) => (by have := wrtO (w := W) (x := st) 8 8 rfl (by omega); rw [u64n_N, ← hp0] at this; exact this : Calls Try.prog 49 #[.int .i64 st, .int .i64 8] W fun e w' => ∃ g, e = .returned (.slice (some ⟨g, 0, none⟩) 8 8) ∧ Own w' W.heap.size 5 1 e8 (.slice (some ⟨g, 0, none⟩) 8 8) p0 ∧ Ext W w'))
  have HR1 := hide (fun (W : World) (hW : Ext w W) => (by have := refRunBytes_any (h.steps.ext hW) (by omega); rw [← hp1] at this; exact this : Calls Try.prog 77 #[.slice sA sn sc] W (NewB W p1)))
  have HR2 := hide (fun (W : World) (hW : Ext w W) => (by have := refRunBytes_any (h.shifts.ext hW) (by omega); rw [← hp2] at this; exact this : Calls Try.prog 77 #[.slice hA hn hc] W (NewB W p2)))
  have HR3 := hide (fun (W : World) (hW : Ext w W) => (by have := refListBytes_any (h.sizes.ext hW) (by omega); rw [← hp3] at this; exact this : Calls Try.prog 78 #[.slice zA zn zc] W (NewB W p3)))
  have HR4 := hide (fun (W : World) (hW : Ext w W) => refListBytes_any (h.keys.ext hW) (by omega))
  have HR5 := hide (fun (W : World) => (by have := wrtO (w := W) (x := (cn : Int)) 4 4 rfl (by omega); rw [u64n_N, u64N_nat (by omega), ← LC] at this; rw [LC] at this ⊢; exact this : Calls Try.prog 49 #[.int .i64 (cn : Int), .int .i64 4] W fun e w' => ∃ g, e = .returned (.slice (some ⟨g, 0, none⟩) 4 4) ∧ Own w' W.heap.size 5 1 e8 (.slice (some ⟨g, 0, none⟩) 4 4) (beN 4 C.length) ∧ Ext W w'))
  have HR6 := hide (fun (W : World) (hW : Ext w W) => (by have := refListBytes_any (h.places.ext hW) (by omega); rw [← hp6] at this; exact this : Calls Try.prog 78 #[.slice pA pn pc] W (NewB W p6)))
  obtain ⟨i0_, hi0, hz0, hz1, hz2⟩ := info_parts Try.info5
  clear h q0 q1 q2 q3 q4 q5 q6 LS LH LZ LK LC LP hp0 hp1 hp2 hp3 hp4 hp6
  go_enter Try.func52, Try.ntmps52
  go_upto_region 1 with (fail)
  refine gen_wpC fun w0 h0 => ?_
  have F0 : Hid (Ext w w0) := hide (by rw [h0]; exact E0.out)
  have Y0 : Hid (Blk w0 w.heap.size 73 #[.int .i64 st, .slice sA sn sc, .slice hA hn hc, .slice zA zn zc, .slice kA kn kc, .slice cA cn cc, .slice pA pn pc]) := hide (by rw [h0]; exact X0.out)
  clear h0 E0 X0
  have x0 : w0.cell? ⟨w.heap.size, 0, none⟩ = some (.int .i64 st) := Y0.out.cell 0
  go_wp2_with fail
  with_reducible refine (HW0.out _).mono ?_
  rintro e w1 ⟨g1, rfl, o1, e1_⟩
  have O1 := hide o1
  have E1 : Hid (Ext w0 w1) := hide e1_
  have L1 : Hid (p0.length ≤ 100000) := hide (by have := HQ.out.1; omega)
  clear o1 e1_ HW0 x0
  have x1 : w1.cell? ⟨w.heap.size, 1, none⟩ = some (.slice sA sn sc) := (Y0.out.ext E1.out).cell 1
  go_wp2_with fail
  with_reducible refine (HR1.out _ (Ext.trans F0.out E1.out)).mono ?_
  rintro e wm ⟨u, rfl, ou, eu⟩
  obtain ⟨uA, uc, rfl, ua⟩ := ou.at_ len_e8
  have UA := hide ua
  have OB := hide (O1.out.ext eu)
  have EB := hide (Ext.trans E1.out eu)
  have HPL := hide HQ.out.2.1
  have S1 : Hid ((p0).length + p1.length ≤ maxLen) := hide (by have := L1.out; have := HPL.out; unfold maxLen; omega)
  have S2 : Hid (((p0).length + p1.length) * 1 ≤ 140737488355328) := hide (by have := L1.out; have := HPL.out; omega)
  have S3 := hide (ext_size EB.out)
  clear ua ou eu x1 O1 E1
  go_upto_region 3 with (at_builtin; refine wpList_append_at _ rfl (.tmp 8) (.tmp 11) 26 rfl w0.heap.size 5 i0_ _ 1 Try.underlying26 hi0 hz0 hz1 hz2 rfl (by omega) len_e8 one_e8 _ _ (by rfl) OB.out uA p1.length uc _ (by rfl) UA.out S1.out S2.out S3.out ?_; intro v2 w2 o2 g2 _ _; have O2_ := hide o2; have G2 := hide g2; clear o2 g2)
  have E2 := hide (OB.out.below EB.out G2.out (Nat.le_refl _))
  have O2 : Hid (Own w2 w0.heap.size 5 1 e8 v2 (p0 ++ p1)) := O2_
  have L2 : Hid ((p0 ++ p1).length ≤ 200000) := hide (by have := L1.out; have := HPL.out; rw [List.length_append]; omega)
  clear OB EB UA S1 S2 S3 G2 O2_ HPL L1
  have x2 : w2.cell? ⟨w.heap.size, 2, none⟩ = some (.slice hA hn hc) := (Y0.out.ext E2.out).cell 2
  go_wp2_with fail
  with_reducible refine (HR2.out _ (Ext.trans F0.out E2.out)).mono ?_
  rintro e wm ⟨u, rfl, ou, eu⟩
  obtain ⟨uA, uc, rfl, ua⟩ := ou.at_ len_e8
  have UA := hide ua
  have OB := hide (O2.out.ext eu)
  have EB := hide (Ext.trans E2.out eu)
  have HPL := hide HQ.out.2.2.1
  have S1 : Hid ((p0 ++ p1).length + p2.length ≤ maxLen) := hide (by have := L2.out; have := HPL.out; unfold maxLen; omega)
  have S2 : Hid (((p0 ++ p1).length + p2.length) * 1 ≤ 140737488355328) := hide (by have := L2.out; have := HPL.out; omega)
  have S3 := hide (ext_size EB.out)
  clear ua ou eu x2 O2 E2
  go_upto_region 4 with (at_builtin; refine wpList_append_at _ rfl (.tmp 13) (.tmp 16) 26 rfl w0.heap.size 5 i0_ _ 1 Try.underlying26 hi0 hz0 hz1 hz2 rfl (by omega) len_e8 one_e8 _ _ (by rfl) OB.out uA p2.length uc _ (by rfl) UA.out S1.out S2.out S3.out ?_; intro v3 w3 o3 g3 _ _; have O3_ := hide o3; have G3 := hide g3; clear o3 g3)
  have E3 := hide (OB.out.below EB.out G3.out (Nat.le_refl _))
  have O3 : Hid (Own w3 w0.heap.size 5 1 e8 v3 (p0 ++ p1 ++ p2)) := O3_
  have L3 : Hid ((p0 ++ p1 ++ p2).length ≤ 300000) := hide (by have := L2.out; have := HPL.out; rw [List.length_append]; omega)
  clear OB EB UA S1 S2 S3 G3 O3_ HPL L2
  have x3 : w3.cell? ⟨w.heap.size, 3, none⟩ = some (.slice zA zn zc) := (Y0.out.ext E3.out).cell 3
  go_wp2_with fail
  with_reducible refine (HR3.out _ (Ext.trans F0.out E3.out)).mono ?_
  rintro e wm ⟨u, rfl, ou, eu⟩
  obtain ⟨uA, uc, rfl, ua⟩ := ou.at_ len_e8
  have UA := hide ua
  have OB := hide (O3.out.ext eu)
  have EB := hide (Ext.trans E3.out eu)
  have HPL := hide HQ.out.2.2.2.1
  have S1 : Hid ((p0 ++ p1 ++ p2).length + p3.length ≤ maxLen) := hide (by have := L3.out; have := HPL.out; unfold maxLen; omega)
  have S2 : Hid (((p0 ++ p1 ++ p2).length + p3.length) * 1 ≤ 140737488355328) := hide (by have := L3.out; have := HPL.out; omega)
  have S3 := hide (ext_size EB.out)
  clear ua ou eu x3 O3 E3
  go_upto_region 5 with (at_builtin; refine wpList_append_at _ rfl (.tmp 18) (.tmp 21) 26 rfl w0.heap.size 5 i0_ _ 1 Try.underlying26 hi0 hz0 hz1 hz2 rfl (by omega) len_e8 one_e8 _ _ (by rfl) OB.out uA p3.length uc _ (by rfl) UA.out S1.out S2.out S3.out ?_; intro v4 w4 o4 g4 _ _; have O4_ := hide o4; have G4 := hide g4; clear o4 g4)
  have E4 := hide (OB.out.below EB.out G4.out (Nat.le_refl _))
  have O4 : Hid (Own w4 w0.heap.size 5 1 e8 v4 (p0 ++ p1 ++ p2 ++ p3)) := O4_
  have L4 : Hid ((p0 ++ p1 ++ p2 ++ p3).length ≤ 400000) := hide (by have := L3.out; have := HPL.out; rw [List.length_append]; omega)
  clear OB EB UA S1 S2 S3 G4 O4_ HPL L3
  generalize hl4 : p0 ++ p1 ++ p2 ++ p3 = l4 at *
  have HL4 := hide hl4
  clear hl4
  have x4 : w4.cell? ⟨w.heap.size, 4, none⟩ = some (.slice kA kn kc) := (Y0.out.ext E4.out).cell 4
  have S1 : Hid (l4.length + 1 ≤ maxLen) := hide (by have := L4.out; unfold maxLen; omega)
  have S2 : Hid ((l4.length + 1) * 1 ≤ 140737488355328) := hide (by have := L4.out; omega)
  have hsz4 := E4.out.size
  go_upto_if 25 with (fail)
  go_cut [3] (fun s3 wx => Hid (Own wx w0.heap.size 5 1 e8 s3 (l4 ++ p4)) ∧ Hid (Ext w0 wx))
  case first =>
    cases hk : nok with
    | true =>
      have hkA : kA = none := HNK.out.2 hk
      have dk : kA.isNone = true := by rw [hkA]; rfl
      have HKB : Hid (p4 = [0]) := hide (by rw [HP4.out, hk]; rfl)
      rw [dk]
      have S3 : Hid (w0.heap.size ≤ (w4.alloc (.cells #[.int .u8 0] 5)).heap.size) := hide (by rw [World.size_alloc]; omega)
      clear hkA hk
      go_wp2_with (at_builtin; refine wpList_append_at _ rfl (.tmp 26) (.tmp 27) 26 rfl w0.heap.size 5 i0_ _ 1 Try.underlying26 hi0 hz0 hz1 hz2 rfl (by omega) len_e8 one_e8 _ _ (by rfl) (O4.out.ext (Ext.alloc _ _)) (some ⟨w4.heap.size, 0, none⟩) 1 1 [0] (by rfl) (At.new1 w4 0 _ rfl _) S1.out S2.out S3.out ?_; intro v7 w7 o7 g7 _ _; have O7_ := hide o7; have G7 := hide g7; clear o7 g7)
      have E7 := hide (Own.below (O4.out.ext (Ext.alloc _ _)) (Ext.trans E4.out (Ext.alloc _ _)) G7.out (Nat.le_refl _))
      go_meet
      exact ⟨hide (by rw [HKB.out]; exact O7_.out), E7⟩
    | false =>
      have hkA : ¬ kA = none := fun e => by have := HNK.out.1 e; rw [hk] at this; cases this
      have dk : kA.isNone = false := by cases kA with
        | none => exact absurd rfl hkA
        | some a => rfl
      have HKB : Hid (p4 = [1] ++ liB K.length K) := hide (by rw [HP4.out, hk]; unfold keyB; rw [if_neg (by simp)])
      rw [dk]
      have S3 : Hid (w0.heap.size ≤ (w4.alloc (.cells #[.int .u8 1] 5)).heap.size) := hide (by rw [World.size_alloc]; omega)
      clear hkA hk
      go_upto_region 8 with (at_builtin; refine wpList_append_at _ rfl (.tmp 29) (.tmp 30) 26 rfl w0.heap.size 5 i0_ _ 1 Try.underlying26 hi0 hz0 hz1 hz2 rfl (by omega) len_e8 one_e8 _ _ (by rfl) (O4.out.ext (Ext.alloc _ _)) (some ⟨w4.heap.size, 0, none⟩) 1 1 [1] (by rfl) (At.new1 w4 1 _ rfl _) S1.out S2.out S3.out ?_; intro v7 w7 o7 g7 _ _; have O7_ := hide o7; have G7 := hide g7; clear o7 g7)
      have E7 := hide (Own.below (O4.out.ext (Ext.alloc _ _)) (Ext.trans E4.out (Ext.alloc _ _)) G7.out (Nat.le_refl _))
      have y4 : w7.cell? ⟨w.heap.size, 4, none⟩ = some (.slice kA kn kc) := (Y0.out.ext E7.out).cell 4
      go_wp2_with fail
      with_reducible refine (HR4.out _ (Ext.trans F0.out E7.out)).mono ?_
      rintro e wm ⟨u, rfl, ou, eu⟩
      obtain ⟨uA, uc, rfl, ua⟩ := ou.at_ len_e8
      have UA := hide ua
      have OB := hide (O7_.out.ext eu)
      have EB := hide (Ext.trans E7.out eu)
      have hq4 := HQ.out.2.2.2.2.1
      rw [HKB.out, List.length_append] at hq4
      have T1 : Hid ((l4 ++ [1]).length + (liB K.length K).length ≤ maxLen) := hide (by have := L4.out; rw [List.length_append]; simp only [List.length_cons, List.length_nil] at hq4 ⊢; unfold maxLen; omega)
      have T2 : Hid (((l4 ++ [1]).length + (liB K.length K).length) * 1 ≤ 140737488355328) := hide (by have := L4.out; rw [List.length_append]; simp only [List.length_cons, List.length_nil] at hq4 ⊢; omega)
      have T3 := hide (ext_size EB.out)
      clear ua ou eu y4 hq4 E7 O7_
      go_wp2_with (at_builtin; refine wpList_append_at _ rfl (.tmp 32) (.tmp 35) 26 rfl w0.heap.size 5 i0_ _ 1 Try.underlying26 hi0 hz0 hz1 hz2 rfl (by omega) len_e8 one_e8 _ _ (by rfl) OB.out uA (liB K.length K).length uc _ (by rfl) UA.out T1.out T2.out T3.out ?_; intro v8 w8 o8 g8 _ _; have O8_ := hide o8; have G8 := hide g8; clear o8 g8)
      have E8 := hide (OB.out.below EB.out G8.out (Nat.le_refl _))
      go_meet
      exact ⟨hide (by rw [HKB.out, ← List.append_assoc]; exact O8_.out), E8⟩
  case rest =>
  obtain ⟨O5, E5⟩ := hcut
  obtain ⟨w5, hw5⟩ : ∃ w5, w5 = wc := ⟨_, rfl⟩
  subst hw5
  have L5 : Hid ((l4 ++ p4).length ≤ 500000) := hide (by have := L4.out; have h9 := HQ.out.2.2.2.2.1; rw [List.length_append]; omega)
  clear O4 E4 x4 S1 S2 e1 hsz4 L4
  generalize hl5 : l4 ++ p4 = l5 at *
  have HLE5 := hide hl5
  clear hl5
  have x5 : w5.cell? ⟨w.heap.size, 5, none⟩ = some (.slice cA cn cc) := (Y0.out.ext E5.out).cell 5
  go_wp2_with fail
  with_reducible refine (HR5.out _).mono ?_
  rintro e wm ⟨gm, rfl, ou, eu⟩
  have UA := hide (ou.atS len_e8)
  have OB := hide (O5.out.ext eu)
  have EB := hide (Ext.trans E5.out eu)
  have S1 : Hid (l5.length + 4 ≤ maxLen) := hide (by have := L5.out; unfold maxLen; omega)
  have S2 : Hid ((l5.length + 4) * 1 ≤ 140737488355328) := hide (by have := L5.out; omega)
  have S3 := hide (ext_size EB.out)
  clear ou eu x5 O5 E5
  go_upto_region 10 with (at_builtin; refine wpList_append_at _ rfl (.tmp 37) (.tmp 41) 26 rfl w0.heap.size 5 i0_ _ 1 Try.underlying26 hi0 hz0 hz1 hz2 rfl (by omega) len_e8 one_e8 _ _ (by rfl) OB.out (some ⟨gm, 0, none⟩) 4 4 _ (by rfl) UA.out S1.out S2.out S3.out ?_; intro v6 w6 o6 g6 _ _; have O6_ := hide o6; have G6 := hide g6; clear o6 g6)
  have E6 := hide (OB.out.below EB.out G6.out (Nat.le_refl _))
  clear OB EB UA S1 S2 S3 G6
  go_wp2_with fail
  go_loopw [3, 4] (fun r3 ri wr => ∃ k : Nat, k ≤ cn ∧ ri = .int .i64 k ∧ Hid (Own wr w0.heap.size 5 1 e8 r3 (l5 ++ liB C.length (rnN (C.take k)))) ∧ Hid (Ext w0 wr)) (fun _ ri _ => cn - (intOf ri).toNat)
  case atStart => exact ⟨0, by omega, rfl, hide (by simpa [liB, rnN, lsB] using O6_.out), E6⟩
  case round =>
    clear O6_ E6
    obtain ⟨k, hk, rfl, HO, HX⟩ := hrel
    have x5 : wr.cell? ⟨w.heap.size, 5, none⟩ = some (.slice cA cn cc) := (Y0.out.ext HX.out).cell 5
    by_cases hlt : k < cn
    · obtain ⟨b, off, rfl, _⟩ := HH.out.chunks.addr (by omega)
      obtain ⟨a0, a1⟩ := (HH.out.chunks.ext (Ext.trans F0.out HX.out)).pair hlt
      simp only at a0 a1
      have HPR := hide (fun (W : World) (hW : Ext w W) => (HH.out.chunks.ext hW).pair hlt)
      simp only at HPR
      have HSU : Hid (liB C.length (rnN (C.take (k + 1))) = liB C.length (rnN (C.take k)) ++ beN 8 (u64n (C.getD k (0, 0)).1) ++ beN 8 (u64n (C.getD k (0, 0)).2)) := hide (by rw [rnN_take (by have := HLC.out; omega)]; unfold liB; rw [lsB_two, u64n_N, u64n_N]; simp only [List.append_assoc])
      generalize (C.getD k (0, 0)).1 = x at *
      generalize (C.getD k (0, 0)).2 = y at *
      have hq5 := HQ.out.2.2.2.2.2.1 k
      generalize hac : liB C.length (rnN (C.take k)) = acc at *
      clear hac
      have i1 : (k : Int) < (cn : Int) := by omega
      have i0 : (0 : Int) ≤ (k : Int) := by omega
      have i8 : IntKind.i64.wrap ((k : Int) + 1) = (k : Int) + 1 := by rw [IntKind.wrap_i64]; omega
      have S1 : Hid ((l5 ++ acc).length + 8 ≤ maxLen) := hide (by have := L5.out; rw [List.length_append]; unfold maxLen; omega)
      have S2 : Hid (((l5 ++ acc).length + 8) * 1 ≤ 140737488355328) := hide (by have := L5.out; rw [List.length_append]; omega)
      have T1 : Hid ((l5 ++ acc ++ beN 8 (u64n x)).length + 8 ≤ maxLen) := hide (by have := L5.out; rw [List.length_append, List.length_append, beN_len]; unfold maxLen; omega)
      have T2 : Hid (((l5 ++ acc ++ beN 8 (u64n x)).length + 8) * 1 ≤ 140737488355328) := hide (by have := L5.out; rw [List.length_append, List.length_append, beN_len]; omega)
      have HW1 := hide (fun (W : World) => wrtO (w := W) (x := x) 8 8 rfl (by omega))
      have HW2 := hide (fun (W : World) => wrtO (w := W) (x := y) 8 8 rfl (by omega))
      clear hq5
      go_wp2_with fail
      with_reducible refine (HW1.out _).mono ?_
      rintro e w4 ⟨g4, rfl, o4, e4⟩
      have A4 := hide (o4.atS len_e8)
      have OB := hide (HO.out.ext e4)
      have E4 := hide (Ext.trans HX.out e4)
      have S3 := hide (ext_size E4.out)
      clear o4 e4 a0 a1 x5 HO HX
      go_upto_region 14 with (at_builtin; refine wpList_append_at _ rfl (.tmp 50) (.tmp 57) 26 rfl w0.heap.size 5 i0_ _ 1 Try.underlying26 hi0 hz0 hz1 hz2 rfl (by omega) len_e8 one_e8 _ _ (by rfl) OB.out (some ⟨g4, 0, none⟩) 8 8 _ (by rfl) A4.out S1.out S2.out S3.out ?_; intro v6 w6 o6 g6 _ _; have O6_ := hide o6; have G6 := hide g6; clear o6 g6)
      have E6 := hide (OB.out.below E4.out G6.out (Nat.le_refl _))
      have y5 : w6.cell? ⟨w.heap.size, 5, none⟩ = some (.slice (some ⟨b, off, none⟩) cn cc) := (Y0.out.ext E6.out).cell 5
      obtain ⟨c0, c1⟩ := HPR.out _ (Ext.trans F0.out E6.out)
      clear OB E4 G6 A4 HPR
      go_wp2_with fail
      with_reducible refine (HW2.out _).mono ?_
      rintro e w7 ⟨g7, rfl, o7, e7⟩
      have A7 := hide (o7.atS len_e8)
      have OC := hide (O6_.out.ext e7)
      have E7 := hide (Ext.trans E6.out e7)
      have T3 := hide (ext_size E7.out)
      clear o7 e7 c0 c1 y5 O6_ E6
      go_wp2_with (at_builtin; refine wpList_append_at _ rfl (.tmp 59) (.tmp 66) 26 rfl w0.heap.size 5 i0_ _ 1 Try.underlying26 hi0 hz0 hz1 hz2 rfl (by omega) len_e8 one_e8 _ _ (by rfl) OC.out (some ⟨g7, 0, none⟩) 8 8 _ (by rfl) A7.out T1.out T2.out T3.out ?_; intro v8 w8 o8 g8 _ _; have O8_ := hide o8; have G8 := hide g8; clear o8 g8)
      exact ⟨⟨k + 1, by omega, by go_num, hide (by rw [HSU.out, ← List.append_assoc, ← List.append_assoc]; exact O8_.out), hide (OC.out.below E7.out G8.out (Nat.le_refl _))⟩, by simp [intOf]; omega⟩
    · obtain rfl : k = cn := by omega
      have HTK : Hid (C.take k = C) := hide (List.take_of_length_le (by have := HLC.out; omega))
      have O9 : Hid (Own wr w0.heap.size 5 1 e8 u3 (l5 ++ liB C.length (rnN C))) := hide (by have := HO.out; rw [HTK.out] at this; exact this)
      have L9 : Hid ((l5 ++ liB C.length (rnN C)).length ≤ 600000) := hide (by have := L5.out; have h9 := HQ.out.2.2.2.2.2.1 k; rw [HTK.out] at h9; rw [List.length_append]; omega)
      generalize hl9 : l5 ++ liB C.length (rnN C) = l9 at *
      have HL9 := hide hl9
      clear hl9 HO
      go_upto_region 15 with (fail)
      have x6 : wr.cell? ⟨w.heap.size, 6, none⟩ = some (.slice pA pn pc) := (Y0.out.ext HX.out).cell 6
      go_wp2_with fail
      with_reducible refine (HR6.out _ (Ext.trans F0.out HX.out)).mono ?_
      rintro e wm ⟨u, rfl, ou, eu⟩
      obtain ⟨uA, uc, rfl, ua⟩ := ou.at_ len_e8
      have UA := hide ua
      have OB := hide (O9.out.ext eu)
      have EB := hide (Ext.trans HX.out eu)
      have S1 : Hid (l9.length + p6.length ≤ maxLen) := hide (by have := L9.out; have h9 := HQ.out.2.2.2.2.2.2; unfold maxLen; omega)
      have S2 : Hid ((l9.length + p6.length) * 1 ≤ 140737488355328) := hide (by have := L9.out; have h9 := HQ.out.2.2.2.2.2.2; omega)
      have S3 := hide (ext_size EB.out)
      clear ua ou eu x6
      go_wp2_with (at_builtin; refine wpList_append_at _ rfl (.tmp 68) (.tmp 71) 26 rfl w0.heap.size 5 i0_ _ 1 Try.underlying26 hi0 hz0 hz1 hz2 rfl (by omega) len_e8 one_e8 _ _ (by rfl) OB.out uA p6.length uc _ (by rfl) UA.out S1.out S2.out S3.out ?_; intro v10 w10 o10 g10 _ _; have O10_ := hide o10; have G10 := hide g10; clear o10 g10)
      have E10 := hide (OB.out.below EB.out G10.out (Nat.le_refl _))
      go_wp2_with fail
      go_ret
      exact ⟨_, rfl, by rw [HTB.out]; exact O10_.out.more F0.out.size, Ext.trans F0.out E10.out⟩
end Go.Proofs.Ytlonhkjplijlcaa
namespace Go.Proofs.Ytlonhkjplijlcaa
open Go.RowKit
theorem Try.info119 : (Try.prog.info? 119).map (fun i => (i.zero, i.size, i.bytes)) = some (some (.agg #[.int .i64 0, .int .i64 0]), 2, 16) := by kernel_rfl
/-- What runs gives. -/
def RnGives (w : World) (sb : Nat) (A : Option Addr) (n c : Nat) (l : List (Int × Int)) (q : Rd) (e : Ending) (w' : World) : Prop :=
  ∃ T k tc, e = .returned (.slice T k tc) ∧ At w' 2 e2 T k tc l ∧ Blk w' sb 157 (srcC A n c q) ∧ Tw w w' sb none ∧ ∀ a, T = some a → w.heap.size ≤ a.block
theorem half_lt {i k N : Nat} (hi : i = 2 * k) (h : i + 1 < N) : k + 1 ≤ N / 2 := by omega
set_option linter.unusedVariables false in
set_option maxRecDepth 100000 in
set_option maxHeartbeats 8000000 in
theorem srcRuns_any {sb : Nat} {A : Option Addr} {n c : Nat} {b : List UInt8} {s : Rd} {w : World} (hB : Blk w sb 157 (srcC A n c s)) (h : At w 1 e8 A n c b) (hne : 0 < n → ∀ a, A = some a → a.block ≠ sb) (hp : s.pos ≤ n) (hn : n ≤ 1000000) :
    Calls Try.prog 99 #[.pointer (some ⟨sb, 0, none⟩)] w (RnGives w sb A n c (prL (lsF b 2 s).1) (lsF b 2 s).2) := by
  have HLS := hide (srcList_any hB h hne hp (z := 2) (each := 2) rfl (by omega))
  have hsb := hB.lt
  have hfew := lsH_few b 2 s
  rw [h.len, ← lsF_len] at hfew
  obtain ⟨i0_, hi0, hz0, hz1, hz2⟩ := info_parts Try.info119
  clear hB h hne
  go_enter Try.func99, Try.ntmps99
  go_wp2_with fail
  with_reducible refine HLS.out.mono ?_
  rintro e w1 ⟨T, N, tc, rfl, a1, b1, t1, l1⟩
  have A1 := hide a1
  have B1 := hide b1
  have T1 := hide t1
  have L1 := hide l1
  have hNl := a1.len
  rw [hNl] at hfew
  have hsz1 := t1.size
  generalize (lsF b 2 s).2 = q at *
  generalize (lsF b 2 s).1 = l at *
  have HNL := hide hNl
  clear a1 b1 t1 l1 HLS hNl
  go_wp2_with fail
  go_loopw [4, 5] (fun r4 ri wr => ∃ k i : Nat, i = 2 * k ∧ k ≤ N / 2 ∧ ri = .int .i64 i ∧ Hid (Own wr w1.heap.size 119 2 e2 r4 (prK l k)) ∧ Hid (Ext w1 wr)) (fun _ ri _ => N + 2 - (intOf ri).toNat)
  case atStart => exact ⟨0, 0, rfl, Nat.zero_le _, rfl, hide (Own.nil _ _ _ _ _), hide (Ext.refl _)⟩
  case round =>
    obtain ⟨k, i, hik, hk, rfl, HO, HX⟩ := hrel
    have i8 : IntKind.i64.wrap ((i : Int) + 1) = (i : Int) + 1 := by rw [IntKind.wrap_i64]; omega
    have i9 : IntKind.i64.wrap ((i : Int) + 2) = (i : Int) + 2 := by rw [IntKind.wrap_i64]; omega
    by_cases hlt : i + 1 < N
    · obtain ⟨bT, oT, rfl, _⟩ := A1.out.addr (by omega)
      have hat := A1.out.ext HX.out
      have a0 := hat.num (k := i) (by omega)
      have a1 := hat.num (k := i + 1) (by omega)
      have HSU : Hid (prK l (k + 1) = prK l k ++ [(l.getD i 0, l.getD (i + 1) 0)]) := hide (by rw [prK_succ, hik])
      have c0 := A1.out.num (k := i) (by omega)
      have c1 := A1.out.num (k := i + 1) (by omega)
      generalize l.getD i 0 = x at *
      generalize l.getD (i + 1) 0 = y at *
      have i1 : (i : Int) + 1 < (N : Int) := by omega
      have i2 : (i : Int) < (N : Int) := by omega
      have i0 : (0 : Int) ≤ (i : Int) := by omega
      have i3 : ((i : Int) + 1).toNat = i + 1 := by omega
      have i4 : (0 : Int) ≤ (i : Int) + 1 := by omega
      have hlk : (prK l k).length = k := prK_len _ _
      have S1 : Hid ((prK l k).length + 1 ≤ maxLen) := hide (by rw [hlk]; unfold maxLen; omega)
      have S2 : Hid (((prK l k).length + 1) * 16 ≤ 140737488355328) := hide (by rw [hlk]; omega)
      have S3 : Hid (w1.heap.size ≤ (wr.drew.alloc (.cells #[.int .i64 x, .int .i64 y] 119)).heap.size) := hide (by have := HX.out.size; rw [World.size_alloc]; show w1.heap.size ≤ wr.heap.size + 1; omega)
      have HK := hide (And.intro hik (half_lt hik hlt))
      clear hat hlk hik
      go_upto_region 6 with (fail)
      go_region_held3 (fun w' => w'.cell? ⟨bT, oT + i, none⟩ = some (.int .i64 x) ∧ w'.cell? ⟨bT, oT + (i + 1), none⟩ = some (.int .i64 y)) (first | go_keep | exact ⟨(Ext.alloc _ _).cell a0, (Ext.alloc _ _).cell a1⟩ | exact ⟨E7.cell c0, E7.cell c1⟩) (first
        | ((refine step_append_at rfl (.tmp 15) (.tmp 26) 69 rfl w1.heap.size 119 i0_ _ 16 Try.underlying69 hi0 hz0 hz1 hz2 rfl (by omega) len_e2 one_e2 _ _ (by simp [Act.eval]) (HO.out.ext (Ext.trans (Ext.drew _) (Ext.alloc _ _))) (some ⟨wr.drew.heap.size, 0, none⟩) 1 1 [(x, y)] (by simp [Act.eval]) (At.pair1 wr.drew x y _) S1.out S2.out S3.out ?_); intro v7 w7 o7 g7 _ _; have O7 := hide o7; have E7 : Ext w1 w7 := Own.below (HO.out.ext (Ext.trans (Ext.drew _) (Ext.alloc _ _))) (Ext.trans HX.out (Ext.trans (Ext.drew _) (Ext.alloc _ _))) g7 (Nat.le_refl _); clear o7 g7))
      all_goals go_wp2_with fail
      exact ⟨⟨k + 1, i + 2, by have := HK.out.1; omega, HK.out.2, by go_num, hide (by rw [HSU.out]; exact O7.out), hide E7⟩, by simp [intOf]; omega⟩
    · have hk2 : k = N / 2 := by omega
      have i1 : ¬ (i : Int) + 1 < (N : Int) := by omega
      have HE : Hid (prL l = prK l k) := hide (by unfold prL; rw [HNL.out, hk2])
      have HKK := hide hk2
      clear hk2
      obtain ⟨vA, vc, hv, hat⟩ := HO.out.at_ len_e2
      have HAT := hide hat
      have HLT := HO.out.lt
      subst hv
      clear hlt hat
      go_wp2_with fail
      go_ret
      rw [HE.out]
      exact ⟨_, _, _, rfl, HAT.out, B1.out.ext HX.out, T1.out.trans (Tw.of_ext HX.out _ _), fun a ha => by subst ha; have := (HLT a.block rfl).1; omega⟩
end Go.Proofs.Ytlonhkjplijlcaa
