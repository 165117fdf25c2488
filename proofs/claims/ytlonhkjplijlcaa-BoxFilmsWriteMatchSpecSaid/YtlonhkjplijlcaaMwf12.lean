/- Several texts in one: Walk: tableBytes (program). Conditions as stated; Marks of samples in plain words. Plain; Walk: written (reference). Conditions as stated. -/
import Derived.Test.YtlonhkjplijlcaaMwf11
import Derived.Deep.RegionHeld3
import Derived.Test.YtlonhkjplijlcaaMwf01
import Derived.Test.YtlonhkjplijlcaaMwf08
import Derived.Test.YtlonhkjplijlcaaMwf02
namespace Go.Proofs.Ytlonhkjplijlcaa
open Go.RowKit
def keyB (nok : Bool) (K : List Int) : List UInt8 := if nok = true then [0] else [1] ++ liB K.length K
/-- A table as bytes. -/
def tabBy (t : Tab) : List UInt8 := beN 8 (u64N t.start) ++ liB t.steps.length (rnN t.steps) ++ liB t.shifts.length (rnN t.shifts) ++ liB t.sizes.length t.sizes ++ keyB t.nok t.keys ++ liB t.chunks.length (rnN t.chunks) ++ liB t.places.length t.places
theorem liB_len (m : Nat) (l : List Int) : (liB m l).length = 4 + 8 * l.length := by unfold liB; rw [List.length_append, beN_len, lsB_len]
theorem keyB_len (nok : Bool) (K : List Int) : (keyB nok K).length ≤ 5 + 8 * K.length := by
  unfold keyB
  cases nok with
  | true => rw [if_pos rfl]; simp; omega
  | false => rw [if_neg (by simp), List.length_append, liB_len]; simp; omega
/-- Few of all. -/
structure TabFw (sn hn zn kn cn pn : Nat) : Prop where
  s : sn ≤ 5000
  h : hn ≤ 5000
  z : zn ≤ 5000
  k : kn ≤ 5000
  c : cn ≤ 5000
  p : pn ≤ 5000
set_option linter.unusedVariables false in
set_option linter.unusedSimpArgs false in
set_option maxRecDepth 100000 in
set_option maxHeartbeats 16000000 in
theorem tableBytes_in {st : Int} {sA : Option Addr} {sn sc : Nat} {hA : Option Addr} {hn hc : Nat} {zA : Option Addr} {zn zc : Nat} {kA : Option Addr} {kn kc : Nat} {cA : Option Addr} {cn cc : Nat} {pA : Option Addr} {pn pc : Nat} {t : Tab} {w : World} (h : TabAt w sA sn sc hA hn hc zA zn zc kA kn kc cA cn cc pA pn pc t) (hst : t.start = st) (hf : TabFw sn hn zn kn cn pn) :
    Calls Try.prog 42 #[.agg #[.int .i64 st, .slice sA sn sc, .slice hA hn hc, .slice zA zn zc, .slice kA kn kc, .slice cA cn cc, .slice pA pn pc]] w fun e w' => ∃ T k tc, e = .returned (.slice T k tc) ∧ Own w' (w.heap.size + 1) 5 1 e8 (.slice T k tc) (tabBy t) ∧ Ext w w' := by
  subst hst
  obtain ⟨st, S, SH, Z, K, nok, C, P⟩ := t
  simp only at h ⊢
  obtain ⟨f1, f2, f3, f4, f5, f6⟩ := hf
  have LS : S.length = sn := h.steps.len
  have LH : SH.length = hn := h.shifts.len
  have LZ : Z.length = zn := h.sizes.len
  have LK : K.length = kn := h.keys.len
  have LC : C.length = cn := h.chunks.len
  have LP : P.length = pn := h.places.len
  have HTB : Hid (tabBy ⟨st, S, SH, Z, K, nok, C, P⟩ = beN 8 (u64N st) ++ liB sn (rnN S) ++ liB hn (rnN SH) ++ liB zn Z ++ keyB nok K ++ liB cn (rnN C) ++ liB pn P) := hide (by unfold tabBy; simp only [LS, LH, LZ, LC, LP])
  have q0 : (beN 8 (u64N st)).length = 8 := beN_len _ _
  have q1 : (liB sn (rnN S)).length = 4 + 16 * sn := by rw [liB_len, rnN_len, LS]; omega
  have q2 : (liB hn (rnN SH)).length = 4 + 16 * hn := by rw [liB_len, rnN_len, LH]; omega
  have q3 : (liB zn Z).length = 4 + 8 * zn := by rw [liB_len, LZ]
  have q4 : (keyB nok K).length ≤ 5 + 8 * kn := by rw [← LK]; exact keyB_len nok K
  have q5 : (liB cn (rnN C)).length = 4 + 16 * cn := by rw [liB_len, rnN_len, LC]; omega
  have HQ := hide (And.intro q0 (And.intro q1 (And.intro q2 (And.intro q3 (And.intro q4 q5)))))
  have HLK := hide LK
  have HLC := hide LC
  have HNK := hide h.nok
  have HH := hide h
  have E0 := hide (Ext.alloc w (.cells #[.int .i64 st, .slice sA sn sc, .slice hA hn hc, .slice zA zn zc, .slice kA kn kc, .slice cA cn cc, .slice pA pn pc] 73))
  have X0 := hide (Blk.new w 73 #[.int .i64 st, .slice sA sn sc, .slice hA hn hc, .slice zA zn zc, .slice kA kn kc, .slice cA cn cc, .slice pA pn pc])
  have e1 := fun (W : World) => Lib.run_eql_slice_nil (P := Try.prog) W 70 3 kA kn kc 0 0 Try.underlying70
  have HLT : Hid (∀ (α : Type) (sz : Nat) (enc : α → List Value) (A : Option Addr) (n c : Nat) (l : List α), At w sz enc A n c l → (∀ x, (enc x).length = sz) → 0 < sz → 0 < n → ∀ a, A = some a → a.block < w.heap.size) := hide (fun α sz enc A n c l ha h1 h2 h3 => ha.blk_lt h1 h2 h3)
  clear h q0 q1 q2 q3 q4 q5 LS LH LZ LK LC LP
  go_enter Try.func42, Try.ntmps42
  go_upto_region 1 with (fail)
  refine gen_wpC fun w0 h0 => ?_
  have hs0 : w0.heap.size = w.heap.size + 1 := by rw [h0]; exact World.size_alloc _ _
  have F0 : Hid (Ext w w0) := hide (by rw [h0]; exact E0.out)
  have Y0 : Hid (Blk w0 w.heap.size 73 #[.int .i64 st, .slice sA sn sc, .slice hA hn hc, .slice zA zn zc, .slice kA kn kc, .slice cA cn cc, .slice pA pn pc]) := hide (by rw [h0]; exact X0.out)
  clear h0 E0 X0
  have x0 : w0.cell? ⟨w.heap.size, 0, none⟩ = some (.int .i64 st) := Y0.out.cell 0
  have u0 : IntKind.u64.wrap st = ((u64N st : Nat) : Int) := (u64N_cast st).symm
  have HA0 := hide (appendNumberG (w := w0) (n := u64N st) (many := 8) (z := 8) (base := w0.heap.size) (Own.nil w0 w0.heap.size 5 1 e8) (Nat.le_refl _) rfl (by omega) (u64N_lt _) (by simp))
  have HAL := hide (fun (W : World) (v : Value) (l : List UInt8) (many n c : Nat) (A : Option Addr) (ns : List Int) (ho : Own W w0.heap.size 5 1 e8 v l) (hE : Ext w0 W) (ha : At W 1 e64 A n c ns) (hlo : 0 < n → ∀ a, A = some a → some a.block ≠ v.ownBlock) (h1 : many ≤ 1000000) (h2 : n ≤ 1000000) (h3 : l.length ≤ 100000000) => (appendList_any ho hE.size ha hlo h1 h2 h3).mono (R' := fun e w' => ∃ v', e = .returned v' ∧ Own w' w0.heap.size 5 1 e8 v' (l ++ liB many ns) ∧ Ext w0 w') (fun e w' ⟨v', he, ho', hg⟩ => ⟨v', he, ho', Own.below ho hE hg.grown (Nat.le_refl _)⟩))
  go_wp2_with fail
  with_reducible refine HA0.out.mono ?_
  rintro e w1 ⟨v1, rfl, o1, g1⟩
  rw [List.nil_append] at o1
  have O1 := hide o1
  have E1 : Hid (Ext w0 w1) := hide (Own.below (Own.nil w0 w0.heap.size 5 1 e8) (Ext.refl _) g1.grown (Nat.le_refl _))
  clear o1 g1 HA0 x0 u0
  have HRN1 := hide (fun (W : World) (hW : Ext w0 W) => runNumbers_any (HH.out.steps.ext (Ext.trans F0.out hW)) (by omega))
  have x1 : w1.cell? ⟨w.heap.size, 1, none⟩ = some (.slice sA sn sc) := (Y0.out.ext E1.out).cell 1
  have z1 : w0.cell? ⟨w.heap.size, 1, none⟩ = some (.slice sA sn sc) := Y0.out.cell 1
  have HLL : Hid ((beN 8 (u64N st)).length ≤ 100000000) := hide (by have := HQ.out; first | (simp only [List.length_append]; omega) | omega)
  have HRL : Hid (∀ g, v1.ownBlock = some g → g < w1.heap.size) := hide (fun g hg => (O1.out.lt g hg).2)
  go_upto_region 2 with (fail)
  go_region_held3 (fun w' => w'.cell? ⟨w.heap.size, 1, none⟩ = some (.slice sA sn sc)) (first | go_keep | exact EA.cell x1 | exact EB.cell z1) (first
    | ((go_at_call 69; with_reducible refine (HRN1.out _ (Ext.trans E1.out (Ext.drew _))).mono ?_); rintro e wa ⟨R, rk, rc, rfl, ra, re, rl⟩; have EA : Ext w1 wa := Ext.trans (Ext.drew _) re; have RA := hide ra; have RL := hide rl; have RK : Hid (rk ≤ 1000000) := hide (by have h9 := ra.len; rw [rnN_len, HH.out.steps.len] at h9; omega); clear ra re rl)
    | ((go_at_call 68; with_reducible refine (HAL.out _ _ _ sn _ _ _ _ (O1.out.ext EA) (Ext.trans E1.out EA) RA.out (fun _ a ha e => by have h8 := HRL.out _ e.symm; have h9 := RL.out a ha; exact absurd (Nat.lt_of_lt_of_le h8 h9) (Nat.lt_irrefl _)) (by omega) RK.out HLL.out).mono ?_); rintro e w2 ⟨v2, rfl, o2, EB⟩))
  all_goals
    have O2 := hide o2
    have E2 : Hid (Ext w0 w2) := hide EB
    clear o2 EB EA RA RL RK x1 z1 HRN1 HLL HRL O1 E1
  have HRN2 := hide (fun (W : World) (hW : Ext w0 W) => runNumbers_any (HH.out.shifts.ext (Ext.trans F0.out hW)) (by omega))
  have x2 : w2.cell? ⟨w.heap.size, 2, none⟩ = some (.slice hA hn hc) := (Y0.out.ext E2.out).cell 2
  have z2 : w0.cell? ⟨w.heap.size, 2, none⟩ = some (.slice hA hn hc) := Y0.out.cell 2
  have HLL : Hid ((beN 8 (u64N st) ++ liB sn (rnN S)).length ≤ 100000000) := hide (by have := HQ.out; first | (simp only [List.length_append]; omega) | omega)
  have HRL : Hid (∀ g, v2.ownBlock = some g → g < w2.heap.size) := hide (fun g hg => (O2.out.lt g hg).2)
  go_upto_region 3 with (fail)
  go_region_held3 (fun w' => w'.cell? ⟨w.heap.size, 2, none⟩ = some (.slice hA hn hc)) (first | go_keep | exact EA.cell x2 | exact EB.cell z2) (first
    | ((go_at_call 69; with_reducible refine (HRN2.out _ (Ext.trans E2.out (Ext.drew _))).mono ?_); rintro e wa ⟨R, rk, rc, rfl, ra, re, rl⟩; have EA : Ext w2 wa := Ext.trans (Ext.drew _) re; have RA := hide ra; have RL := hide rl; have RK : Hid (rk ≤ 1000000) := hide (by have h9 := ra.len; rw [rnN_len, HH.out.shifts.len] at h9; omega); clear ra re rl)
    | ((go_at_call 68; with_reducible refine (HAL.out _ _ _ hn _ _ _ _ (O2.out.ext EA) (Ext.trans E2.out EA) RA.out (fun _ a ha e => by have h8 := HRL.out _ e.symm; have h9 := RL.out a ha; exact absurd (Nat.lt_of_lt_of_le h8 h9) (Nat.lt_irrefl _)) (by omega) RK.out HLL.out).mono ?_); rintro e w3 ⟨v3, rfl, o3, EB⟩))
  all_goals
    have O3 := hide o3
    have E3 : Hid (Ext w0 w3) := hide EB
    clear o3 EB EA RA RL RK x2 z2 HRN2 HLL HRL O2 E2
  have x3 : w3.cell? ⟨w.heap.size, 3, none⟩ = some (.slice zA zn zc) := (Y0.out.ext E3.out).cell 3
  have HLL : Hid ((beN 8 (u64N st) ++ liB sn (rnN S) ++ liB hn (rnN SH)).length ≤ 100000000) := hide (by have := HQ.out; first | (simp only [List.length_append]; omega) | omega)
  have HA4 := hide (HAL.out _ _ _ zn _ _ _ _ O3.out E3.out (HH.out.sizes.ext (Ext.trans F0.out E3.out)) (fun hz0 a ha e => by have h8 := (O3.out.lt _ e.symm).1; have h9 := HLT.out _ _ _ _ _ _ _ HH.out.sizes len_e64 (by omega) hz0 a ha; omega) (by omega) (by omega) HLL.out)
  go_wp2_with fail
  with_reducible refine HA4.out.mono ?_
  rintro e w4 ⟨v4, rfl, o4, E4_⟩
  have O4 := hide o4
  have E4 : Hid (Ext w0 w4) := hide E4_
  clear o4 E4_ HA4 x3 HLL O3 E3
  have x4 : w4.cell? ⟨w.heap.size, 4, none⟩ = some (.slice kA kn kc) := (Y0.out.ext E4.out).cell 4
  have y4 : w0.cell? ⟨w.heap.size, 4, none⟩ = some (.slice kA kn kc) := Y0.out.cell 4
  have HLL : Hid ((beN 8 (u64N st) ++ liB sn (rnN S) ++ liB hn (rnN SH) ++ liB zn Z).length ≤ 1000000) := hide (by have := HQ.out; first | (simp only [List.length_append]; omega) | omega)
  obtain ⟨i0_, hi0, hz0, hz1, hz2⟩ := info_parts Try.info5
  obtain ⟨j0_, hj0, hy0, hy1, hy2⟩ := info_parts Try.info3
  have S1 : Hid ((beN 8 (u64N st) ++ liB sn (rnN S) ++ liB hn (rnN SH) ++ liB zn Z).length + 1 ≤ maxLen) := hide (by have := HLL.out; unfold maxLen; omega)
  have S2 : Hid (((beN 8 (u64N st) ++ liB sn (rnN S) ++ liB hn (rnN SH) ++ liB zn Z).length + 1) * 1 ≤ 140737488355328) := hide (by have := HLL.out; omega)
  have hsz4 := E4.out.size
  generalize hl4 : (beN 8 (u64N st) ++ liB sn (rnN S) ++ liB hn (rnN SH) ++ liB zn Z) = l4 at *
  have HL4 := hide hl4
  clear hl4
  go_upto_if 36 with (fail)
  go_cut [3] (fun s3 wx => Hid (Own wx w0.heap.size 5 1 e8 s3 (l4 ++ keyB nok K)) ∧ Hid (Ext w0 wx))
  case first =>
    cases hk : nok with
    | true =>
      have hkA : kA = none := HNK.out.2 hk
      have dk : kA.isNone = true := by rw [hkA]; rfl
      have HKB : Hid (keyB nok K = [0]) := hide (by rw [hk]; rfl)
      rw [dk]
      have S3 : Hid (w0.heap.size ≤ (w4.alloc (.cells #[.int .u8 0] 5)).heap.size) := hide (by rw [World.size_alloc]; omega)
      clear hkA hk
      go_wp2_with (at_builtin; refine wpList_append_at _ rfl (.tmp 37) (.tmp 38) 26 rfl w0.heap.size 5 i0_ _ 1 Try.underlying26 hi0 hz0 hz1 hz2 rfl (by omega) len_e8 one_e8 _ _ (by rfl) (O4.out.ext (Ext.alloc _ _)) (some ⟨w4.heap.size, 0, none⟩) 1 1 [0] (by rfl) (At.new1 w4 0 _ rfl _) S1.out S2.out S3.out ?_; intro v7 w7 o7 g7 _ _; have O7 := hide o7; have E7 : Hid (Ext w0 w7) := hide (Own.below (O4.out.ext (Ext.alloc _ _)) (Ext.trans E4.out (Ext.alloc _ _)) g7 (Nat.le_refl _)); clear o7 g7)
      go_meet
      exact ⟨hide (by rw [HKB.out]; exact O7.out), E7⟩
    | false =>
      have hkA : ¬ kA = none := fun e => by have := HNK.out.1 e; rw [hk] at this; cases this
      have dk : kA.isNone = false := by cases kA with
        | none => exact absurd rfl hkA
        | some a => rfl
      have HKB : Hid (keyB nok K = [1] ++ liB kn K) := hide (by rw [hk]; unfold keyB; rw [if_neg (by simp), HLK.out])
      rw [dk]
      have S3 : Hid (w0.heap.size ≤ (w4.alloc (.cells #[.int .u8 1] 5)).heap.size) := hide (by rw [World.size_alloc]; omega)
      clear hkA hk
      go_wp2_with fail
      go_region_held3 (fun w' => w'.cell? ⟨w.heap.size, 4, none⟩ = some (.slice kA kn kc)) (first | go_keep | exact (Ext.alloc _ _).cell x4 | exact E7.cell y4 | exact EB.cell y4 | exact E4.out.cell y4 | exact (Ext.trans E4.out (by first | exact Ext.trans (Ext.drew _) (Ext.alloc _ _) | exact Ext.trans (Ext.alloc _ _) (Ext.drew _))).cell y4) (first
        | ((refine step_append_at rfl (.tmp 40) (.tmp 41) 26 rfl w0.heap.size 5 i0_ _ 1 Try.underlying26 hi0 hz0 hz1 hz2 rfl (by omega) len_e8 one_e8 _ _ (by simp [Act.eval]) (O4.out.ext (Ext.trans (Ext.drew _) (Ext.alloc _ _))) (some ⟨w4.drew.heap.size, 0, none⟩) 1 1 [1] (by simp [Act.eval]) (At.new1 w4.drew 1 _ rfl _) S1.out S2.out S3.out ?_); intro v7 w7 o7 g7 _ _; have O7 := hide o7; have E7 : Ext w0 w7 := Own.below (O4.out.ext (Ext.trans (Ext.drew _) (Ext.alloc _ _))) (Ext.trans E4.out (Ext.trans (Ext.drew _) (Ext.alloc _ _))) g7 (Nat.le_refl _); clear o7 g7)
        | ((go_at_call 68; with_reducible refine (HAL.out _ _ _ kn _ _ _ _ O7.out E7 (HH.out.keys.ext (Ext.trans F0.out E7)) (fun hz0 a ha e => by have h8 := (O7.out.lt _ e.symm).1; have h9 := HLT.out _ _ _ _ _ _ _ HH.out.keys len_e64 (by omega) hz0 a ha; omega) (by omega) (by omega) (by have := HLL.out; rw [List.length_append]; simp; omega)).mono ?_); rintro e w8 ⟨v8, rfl, o8, EB⟩))
      all_goals
        have O8 := hide o8
        have E8 : Hid (Ext w0 w8) := hide EB
        clear o8 EB
        go_wp2_with fail
        go_meet
        exact ⟨hide (by rw [HKB.out, ← List.append_assoc]; exact O8.out), E8⟩
  case rest =>
  obtain ⟨O5, E5⟩ := hcut
  obtain ⟨w5, hw5⟩ : ∃ w5, w5 = wc := ⟨_, rfl⟩
  subst hw5
  clear O4 E4 x4 y4 S1 S2 e1 hi0 hz0 hz1 hz2
  have HL5 : Hid ((l4 ++ keyB nok K).length ≤ 10000000) := hide (by have h9 := HQ.out.2.2.2.2.1; have := HLL.out; rw [List.length_append]; omega)
  clear HLL hsz4
  generalize hl5 : l4 ++ keyB nok K = l5 at *
  have HLE5 := hide hl5
  clear hl5
  have x5 : w5.cell? ⟨w.heap.size, 5, none⟩ = some (.slice cA cn cc) := (Y0.out.ext E5.out).cell 5
  go_wp2_with fail
  go_loopw [4, 52] (fun r4 ri wr => ∃ k : Nat, k ≤ cn ∧ ri = .int .i64 k ∧ Hid (Own wr w5.heap.size 3 1 e64 r4 (rnN (C.take k))) ∧ Hid (Ext w5 wr)) (fun _ ri _ => cn - (intOf ri).toNat)
  case atStart => exact ⟨0, by omega, rfl, hide (by simpa [rnN] using Own.nil _ _ _ _ _), hide (Ext.refl _)⟩
  case round =>
    obtain ⟨k, hk, rfl, HO, HX⟩ := hrel
    have HXW := hide (Ext.trans F0.out (Ext.trans E5.out HX.out))
    by_cases hlt : k < cn
    · obtain ⟨b, off, rfl, _⟩ := HH.out.chunks.addr (by omega)
      obtain ⟨a0, a1⟩ := (HH.out.chunks.ext HXW.out).pair hlt
      simp only at a0 a1
      have HSU : Hid (rnN (C.take (k + 1)) = rnN (C.take k) ++ [(C.getD k (0, 0)).1, (C.getD k (0, 0)).2]) := hide (rnN_take (by have := HLC.out; omega))
      generalize (C.getD k (0, 0)).1 = x at *
      generalize (C.getD k (0, 0)).2 = y at *
      have hlk : (rnN (C.take k)).length = 2 * k := by rw [rnN_len, List.length_take]; have := HLC.out; omega
      have i1 : (k : Int) < (cn : Int) := by omega
      have i0 : (0 : Int) ≤ (k : Int) := by omega
      have i8 : IntKind.i64.wrap ((k : Int) + 1) = (k : Int) + 1 := by rw [IntKind.wrap_i64]; omega
      have S1 : Hid ((rnN (C.take k)).length + 2 ≤ maxLen) := hide (by rw [hlk]; unfold maxLen; omega)
      have S2 : Hid (((rnN (C.take k)).length + 2) * 8 ≤ 140737488355328) := hide (by rw [hlk]; omega)
      clear hlk
      go_upto_region 12 with (fail)
      refine gen_wpC fun w6 h6 => ?_
      have F6 : Hid (Ext wr w6) := hide (by rw [h6]; exact Ext.alloc _ _)
      have y0 : w6.cell? ⟨wr.heap.size, 0, none⟩ = some (.int .i64 x) := by rw [h6]; exact (Blk.new wr _ _).cell 0
      have y1 : w6.cell? ⟨wr.heap.size, 1, none⟩ = some (.int .i64 y) := by rw [h6]; exact (Blk.new wr _ _).cell 1
      have S3 : Hid (w5.heap.size ≤ (w6.alloc (.cells #[.int .i64 x, .int .i64 y] 3)).heap.size) := hide (by have := (Ext.trans HX.out F6.out).size; rw [World.size_alloc]; omega)
      clear h6 a0 a1
      go_wp2_with (at_builtin; refine wpList_append_at _ rfl (.tmp 56) (.tmp 61) 70 rfl w5.heap.size 3 j0_ _ 8 Try.underlying70 hj0 hy0 hy1 hy2 rfl (by omega) len_e64 one_e64 _ _ (by rfl) (HO.out.ext (Ext.trans F6.out (Ext.alloc _ _))) (some ⟨w6.heap.size, 0, none⟩) 2 2 [x, y] (by rfl) (At.newI2 w6 x y _) S1.out S2.out S3.out ?_; intro v7 w7 o7 g7 _ _; have O7 := hide o7; have G7 := hide g7; clear o7 g7)
      have E7 : Hid (Ext w5 w7) := hide (Own.below (HO.out.ext (Ext.trans F6.out (Ext.alloc _ _))) (Ext.trans HX.out (Ext.trans F6.out (Ext.alloc _ _))) G7.out (Nat.le_refl _))
      exact ⟨⟨k + 1, by omega, by go_num, hide (by rw [HSU.out]; exact O7.out), E7⟩, by simp [intOf]; omega⟩
    · obtain rfl : k = cn := by omega
      obtain ⟨vA, vc, hv, hat⟩ := HO.out.at_ len_e64
      have hln : (rnN (C.take k)).length = 2 * k := by rw [rnN_len, List.length_take]; have := HLC.out; omega
      have HTK : Hid (C.take k = C) := hide (List.take_of_length_le (by have := HLC.out; omega))
      have HAT := hide hat
      have HLO := HO.out.lt
      subst hv
      have EW := hide (Ext.trans E5.out HX.out)
      have HRL : Hid (∀ g, u3.ownBlock = some g → g < w5.heap.size) := hide (fun g hg => (O5.out.lt g hg).2)
      have x5 : wr.cell? ⟨w.heap.size, 5, none⟩ = some (.slice cA k cc) := (Y0.out.ext EW.out).cell 5
      have HA5 := hide (HAL.out _ _ _ k _ _ _ _ (O5.out.ext HX.out) EW.out HAT.out (fun _ a ha e => by subst ha; have h8 := HRL.out _ e.symm; have h9 := (HLO a.block rfl).1; omega) (by omega) (by omega) (by have := HL5.out; omega))
      clear hlt hat hln
      go_wp2_with fail
      with_reducible refine HA5.out.mono ?_
      rintro e w6 ⟨v6, rfl, o6, E6_⟩
      rw [HTK.out] at o6
      have O6 := hide o6
      have E6 : Hid (Ext w0 w6) := hide E6_
      clear o6 E6_ HA5 x5
      have x6 : w6.cell? ⟨w.heap.size, 6, none⟩ = some (.slice pA pn pc) := (Y0.out.ext E6.out).cell 6
      have HA6 := hide (HAL.out _ _ _ pn _ _ _ _ O6.out E6.out (HH.out.places.ext (Ext.trans F0.out E6.out)) (fun hz0 a ha e => by have h8 := (O6.out.lt _ e.symm).1; have h9 := HLT.out _ _ _ _ _ _ _ HH.out.places len_e64 (by omega) hz0 a ha; omega) (by omega) (by omega) (by have := HL5.out; have h9 := HQ.out.2.2.2.2.2; rw [List.length_append]; omega))
      go_wp2_with fail
      with_reducible refine HA6.out.mono ?_
      rintro e w7 ⟨v7, rfl, o7, E7_⟩
      have E7 : Hid (Ext w0 w7) := hide E7_
      obtain ⟨A7, c7, hv7, _⟩ := o7.at_ len_e8
      subst hv7
      have O7 := hide o7
      clear o7 E7_ HA6 x6
      go_wp2_with fail
      go_ret
      refine ⟨_, _, _, rfl, ?_, Ext.trans F0.out E7.out⟩
      rw [HTB.out, ← hs0]
      have h9 := O7.out
      rw [show (l5 ++ liB k (rnN C) ++ liB pn P).length = l5.length + ((liB k (rnN C)).length + (liB pn P).length) from by simp only [List.length_append]; omega] at h9
      exact h9
end Go.Proofs.Ytlonhkjplijlcaa
namespace Go.Proofs.Ytlonhkjplijlcaa
def mk3 (a b c : Bool) : Nat := (if a = true then 1 else 0) + (if b = true then 2 else 0) + (if c = true then 4 else 0)
theorem mk3_lt (a b c : Bool) : mk3 a b c < 8 := by cases a <;> cases b <;> cases c <;> decide
/-- The first so many samples are alike. -/
def pS (l : List Smp) (k : Nat) : Bool := decide (∀ j, j < k → (l.getD j dS).step = (l.getD 0 dS).step)
def pH (l : List Smp) (k : Nat) : Bool := decide (∀ j, j < k → (l.getD j dS).shift = 0)
def pZ (l : List Smp) (k : Nat) : Bool := decide (∀ j, j < k → (l.getD j dS).size = (l.getD 0 dS).size)
def pK (l : List Smp) (k : Nat) : Bool := decide (∀ j, j < k → (l.getD j dS).key = decide (j = 0))
theorem all_succ {p : Nat → Prop} {k : Nat} : (∀ j, j < k + 1 → p j) ↔ (∀ j, j < k → p j) ∧ p k :=
  ⟨fun h => ⟨fun j hj => h j (by omega), h k (by omega)⟩, fun h j hj => by
    rcases Nat.lt_succ_iff_lt_or_eq.1 hj with h1 | h1
    · exact h.1 j h1
    · rw [h1]; exact h.2⟩
theorem pS_succ (l : List Smp) (k : Nat) : pS l (k + 1) = (pS l k && decide ((l.getD k dS).step = (l.getD 0 dS).step)) := by
  unfold pS; rw [Bool.eq_iff_iff]; simp only [Bool.and_eq_true, decide_eq_true_eq]; exact all_succ (p := fun j => (l.getD j dS).step = (l.getD 0 dS).step)
theorem pH_succ (l : List Smp) (k : Nat) : pH l (k + 1) = (pH l k && decide ((l.getD k dS).shift = 0)) := by
  unfold pH; rw [Bool.eq_iff_iff]; simp only [Bool.and_eq_true, decide_eq_true_eq]; exact all_succ (p := fun j => (l.getD j dS).shift = 0)
theorem pZ_succ (l : List Smp) (k : Nat) : pZ l (k + 1) = (pZ l k && decide ((l.getD k dS).size = (l.getD 0 dS).size)) := by
  unfold pZ; rw [Bool.eq_iff_iff]; simp only [Bool.and_eq_true, decide_eq_true_eq]; exact all_succ (p := fun j => (l.getD j dS).size = (l.getD 0 dS).size)
theorem pK_succ (l : List Smp) (k : Nat) : pK l (k + 1) = (pK l k && decide ((l.getD k dS).key = decide (k = 0))) := by
  unfold pK; rw [Bool.eq_iff_iff]; simp only [Bool.and_eq_true, decide_eq_true_eq]; exact all_succ (p := fun j => (l.getD j dS).key = decide (j = 0))
theorem pS_zero (l : List Smp) : pS l 0 = true := by unfold pS; simp
theorem pH_zero (l : List Smp) : pH l 0 = true := by unfold pH; simp
theorem pZ_zero (l : List Smp) : pZ l 0 = true := by unfold pZ; simp
theorem pK_zero (l : List Smp) : pK l 0 = true := by unfold pK; simp
/-- The marks of samples. -/
def mkN (l : List Smp) : Nat := mk3 (pS l l.length) (pH l l.length) (pZ l l.length) + (if (decide (0 < l.length) && pK l l.length) = true then 8 else 0)
theorem mkN_lt (l : List Smp) : mkN l < 16 := by
  unfold mkN
  have := mk3_lt (pS l l.length) (pH l l.length) (pZ l l.length)
  split <;> omega
theorem mk3_s (a b c : Bool) : mk3 a b c &&& 254 = mk3 false b c := by cases a <;> cases b <;> cases c <;> decide
theorem mk3_h (a b c : Bool) : mk3 a b c &&& 253 = mk3 a false c := by cases a <;> cases b <;> cases c <;> decide
theorem mk3_z (a b c : Bool) : mk3 a b c &&& 251 = mk3 a b false := by cases a <;> cases b <;> cases c <;> decide
theorem mk3_8 (a b c : Bool) : mk3 a b c ||| 8 = mk3 a b c + 8 := by cases a <;> cases b <;> cases c <;> decide
end Go.Proofs.Ytlonhkjplijlcaa
namespace Go.Proofs.Ytlonhkjplijlcaa
open Go.RowKit
/-- A number as 64 bits without a sign. -/
def u64n (x : Int) : Nat := (IntKind.u64.wrap x).toNat
theorem u64n_lt (x : Int) : u64n x < 18446744073709551616 := by unfold u64n; rw [IntKind.wrap_u64]; omega
theorem u64n_val (x : Int) : IntKind.u64.wrap x = (u64n x : Int) := by unfold u64n; rw [IntKind.wrap_u64]; omega
theorem u64n_pos {x : Int} (h0 : 0 ≤ x) (h1 : x < 18446744073709551616) : u64n x = x.toNat := by unfold u64n; rw [IntKind.wrap_u64]; omega
theorem beN_more (n many : Nat) : ∀ j, beN (j + many) n = beN j (n / 256 ^ many) ++ beN many n := by
  intro j
  induction many generalizing n with
  | zero => simp [beN]
  | succ m ih => rw [show j + (m + 1) = (j + m) + 1 by omega, beN, ih, beN, Nat.div_div_eq_div_mul, ← List.append_assoc, Nat.pow_succ, Nat.mul_comm]
/-- What is made out of nought, the last byte first. -/
def wrtL (many n k : Nat) : List UInt8 := List.replicate k 0 ++ beN (many - k) n
theorem wrtL_all (many n : Nat) : wrtL many n many = List.replicate many 0 := by unfold wrtL; rw [Nat.sub_self]; simp [beN]
theorem wrtL_none (many n : Nat) : wrtL many n 0 = beN many n := by unfold wrtL; simp
theorem wrtL_len {many n k : Nat} (h : k ≤ many) : (wrtL many n k).length = many := by unfold wrtL; rw [List.length_append, List.length_replicate, beN_len]; omega
theorem wrtL_set {many n k : Nat} (h : k + 1 ≤ many) : (wrtL many n (k + 1)).set k (UInt8.ofNat (n / 256 ^ (many - (k + 1)))) = wrtL many n k := by
  unfold wrtL
  have e1 : List.replicate (k + 1) (0 : UInt8) = List.replicate k 0 ++ [0] := by rw [List.replicate_succ']
  have e2 : beN (many - k) n = [UInt8.ofNat (n / 256 ^ (many - (k + 1)))] ++ beN (many - (k + 1)) n := by
    have := beN_more n (many - (k + 1)) 1
    rw [show 1 + (many - (k + 1)) = many - k by omega] at this
    rw [this]; rfl
  rw [e1, e2, List.append_assoc, List.set_append]
  simp
set_option linter.unusedVariables false in
set_option maxRecDepth 100000 in
set_option maxHeartbeats 2000000 in
theorem written_any {w : World} {many : Nat} {x : Int} (hm : many ≤ 8) :
    Calls Try.prog 49 #[.int .i64 x, .int .i64 (many : Int)] w fun e w' => ∃ g, e = .returned (.slice (some ⟨g, 0, none⟩) many many) ∧ Own w' w.heap.size 5 1 e8 (.slice (some ⟨g, 0, none⟩) many many) (beN many (u64n x)) ∧ Ext w w' := by
  have hw := u64n_val x
  have hlt := u64n_lt x
  generalize u64n x = n at *
  obtain ⟨i0_, hi0, hz0, hz1, hz2⟩ := info_parts Try.info5
  have hmk := made_run (P := Try.prog) 26 5 i0_ (.int .u8 0) Try.underlying26 hi0 hz0 (sz := 1) hz1 (bytes := 1) hz2 many (by omega) (by omega)
  have HO : Hid (Own (w.alloc (.cells (madeCells #[.int .u8 0] many) 5)) w.heap.size 5 1 e8 (.slice (some ⟨w.heap.size, 0, none⟩) many many) (List.replicate many (0 : UInt8))) := hide (by have := made_own (enc := e8) (x := (0 : UInt8)) (t := 5) (z := #[Value.int .u8 0]) (sz := 1) rfl rfl (by omega) w w.heap.size many (Nat.le_refl _) (by unfold maxLen; omega); rwa [Nat.mul_one] at this)
  have HE : Hid (Ext w (w.alloc (.cells (madeCells #[.int .u8 0] many) 5))) := hide (Ext.alloc _ _)
  have HG : Hid (∃ g, g = w.heap.size) := hide ⟨_, rfl⟩
  clear hi0 hz0 hz1 hz2
  go_enter Try.func49, Try.ntmps49
  go_upto_region 2 with (fail)
  refine gen_wpC fun w1 h1 => ?_
  rw [← h1] at HO HE
  have HS := hide hmk
  clear h1 hmk
  go_wp2_with fail
  go_loopw [6, 7] (fun r6 r7 wr => ∃ k : Nat, k ≤ many ∧ r7 = .int .i64 ((k : Int) - 1) ∧ r6 = .int .u64 ((n / 256 ^ (many - k) : Nat) : Int) ∧ Hid (Own wr w.heap.size 5 1 e8 (.slice (some ⟨w.heap.size, 0, none⟩) many many) (wrtL many n k)) ∧ Hid (Ext w wr)) (fun _ r7 _ => ((intOf r7) + 1).toNat)
  case atStart => exact ⟨many, by omega, by go_num, by rw [Nat.sub_self]; simp, hide (by rw [wrtL_all]; exact HO.out), HE⟩
  case round =>
    obtain ⟨k, hk, rfl, rfl, HK, HX⟩ := hrel
    by_cases h0 : 0 < k
    · obtain ⟨j, rfl⟩ : ∃ j, k = j + 1 := ⟨k - 1, by omega⟩
      have e1 : ((j + 1 : Nat) : Int) - 1 = (j : Int) := by omega
      rw [e1]
      have i1 : (0 : Int) ≤ (j : Int) := by omega
      have i2 : (j : Int) < (many : Int) := by omega
      have HQ : Hid (n / 256 ^ (many - (j + 1)) / 256 = n / 256 ^ (many - j)) := hide (by rw [Nat.div_div_eq_div_mul, ← Nat.pow_succ, show (many - (j + 1)).succ = many - j by omega])
      have HW := hide (wrtL_set (many := many) (n := n) (k := j) (by omega))
      have hq : n / 256 ^ (many - (j + 1)) < 18446744073709551616 := Nat.lt_of_le_of_lt (Nat.div_le_self _ _) hlt
      generalize n / 256 ^ (many - (j + 1)) = q at *
      have HU : Hid (e8 (UInt8.ofNat q) = [.int .u8 ((q : Int) % 256)]) := hide (by
        show [Value.int .u8 ((UInt8.ofNat q).toNat : Int)] = _
        rw [UInt8.toNat_ofNat', Int.natCast_emod]; rfl)
      have z1 : ∀ i, wr.frozen? ⟨w.heap.size, i, none⟩ = false := HK.out.frozen1
      have z2 := z1 j
      obtain ⟨cj, hcj⟩ : ∃ cj, wr.cell? ⟨w.heap.size, j, none⟩ = some cj := by
        have := (HK.out.atS len_e8)
        have h3 := this.cellK (k := j) (by omega) (0 : UInt8) 0 _ rfl
        exact ⟨_, by simpa using h3⟩
      clear e1 z1 hw
      go_wp2_with fail
      exact ⟨⟨j, by omega, by go_num, by rw [← HQ.out]; simp, hide (by rw [← HW.out]; exact HK.out.set1 len_e8 j _ _ HU.out), hide (by have h5 := HK.out.lt _ rfl; have := HX.out; exact ⟨this.os, this.tape, this.output, by have := this.size; simpa using this, fun b hb => (Below.heap_setCell _ ⟨w.heap.size, j, none⟩ _ b (by simp; omega)).trans (this.block b hb)⟩)⟩, by simp [intOf]⟩
    · obtain rfl : k = 0 := by omega
      have HV := hide (wrtL_none many n)
      have i1 : ¬ (0 : Int) ≤ ((0 : Nat) : Int) - 1 := by omega
      have e1 : ((0 : Nat) : Int) - 1 = -1 := by omega
      rw [e1] at i1 ⊢
      clear e1
      go_wp2_with fail
      go_ret
      exact ⟨_, rfl, by rw [← HV.out]; exact HK.out, HX.out⟩
end Go.Proofs.Ytlonhkjplijlcaa
