/- Walks: TableBytes of the program and of the document. Conditions as stated. -/
import Derived.Test.YtkdmfkpkelnheaaTbyA
import Derived.Deep.RegionHeld3
import Derived.Test.YtkdmfkpkelnheaaTbyP
import Derived.Test.YtkdmfkpkelnheaaTabC
import Derived.Test.YtkdmfkpkelnheaaFbyR
import Derived.Test.YtkdmfkpkelnheaaTabS
namespace Go.Proofs.Ytkdmfkpkelnheaa
open Go.RowKit
def keyB (nok : Bool) (K : List Int) : List UInt8 := if nok = true then [0] else [1] ++ liB K.length K
/-- A table as bytes. -/
def tabBy (t : Tab) : List UInt8 := beN 8 (u64N t.start) ++ liB t.steps.length (rnN t.steps) ++ liB t.shifts.length (rnN t.shifts) ++ liB t.sizes.length t.sizes ++ keyB t.nok t.keys ++ liB t.chunks.length (rnN t.chunks) ++ liB t.places.length t.places
theorem liB_len (m : Nat) (l : List Int) : (liB m l).length = 4 + 8 * l.length := by unfold liB; rw [List.length_append, beN_len, lsB_len]
theorem keyB_len (nok : Bool) (K : List Int) : (keyB nok K).length ≤ 5 + 8 * K.length := by
  unfold keyB
  cases nok with
  | true => rw [if_pos rfl]; simp; omega
  | false => rw [if_neg (by simp), List.length_append, liB_len]; simp; omega
/-- Few of all. -/
structure TabFw (sn hn zn kn cn pn : Nat) : Prop where
  s : sn ≤ 5000
  h : hn ≤ 5000
  z : zn ≤ 5000
  k : kn ≤ 5000
  c : cn ≤ 5000
  p : pn ≤ 5000
set_option linter.unusedVariables false in
set_option linter.unusedSimpArgs false in
set_option maxRecDepth 100000 in
set_option maxHeartbeats 16000000 in
theorem tableBytes_in {st : Int} {sA : Option Addr} {sn sc : Nat} {hA : Option Addr} {hn hc : Nat} {zA : Option Addr} {zn zc : Nat} {kA : Option Addr} {kn kc : Nat} {cA : Option Addr} {cn cc : Nat} {pA : Option Addr} {pn pc : Nat} {t : Tab} {w : World} (h : TabAt w sA sn sc hA hn hc zA zn zc kA kn kc cA cn cc pA pn pc t) (hst : t.start = st) (hf : TabFw sn hn zn kn cn pn) :
    Calls Try.prog 34 #[.agg #[.int .i64 st, .slice sA sn sc, .slice hA hn hc, .slice zA zn zc, .slice kA kn kc, .slice cA cn cc, .slice pA pn pc]] w fun e w' => ∃ T k tc, e = .returned (.slice T k tc) ∧ Own w' (w.heap.size + 1) 5 1 e8 (.slice T k tc) (tabBy t) ∧ Ext w w' := by
  subst hst
  obtain ⟨st, S, SH, Z, K, nok, C, P⟩ := t
  simp only at h ⊢
  obtain ⟨f1, f2, f3, f4, f5, f6⟩ := hf
  have LS : S.length = sn := h.steps.len
  have LH : SH.length = hn := h.shifts.len
  have LZ : Z.length = zn := h.sizes.len
  have LK : K.length = kn := h.keys.len
  have LC : C.length = cn := h.chunks.len
  have LP : P.length = pn := h.places.len
  have HTB : Hid (tabBy ⟨st, S, SH, Z, K, nok, C, P⟩ = beN 8 (u64N st) ++ liB sn (rnN S) ++ liB hn (rnN SH) ++ liB zn Z ++ keyB nok K ++ liB cn (rnN C) ++ liB pn P) := hide (by unfold tabBy; simp only [LS, LH, LZ, LC, LP])
  have q0 : (beN 8 (u64N st)).length = 8 := beN_len _ _
  have q1 : (liB sn (rnN S)).length = 4 + 16 * sn := by rw [liB_len, rnN_len, LS]; omega
  have q2 : (liB hn (rnN SH)).length = 4 + 16 * hn := by rw [liB_len, rnN_len, LH]; omega
  have q3 : (liB zn Z).length = 4 + 8 * zn := by rw [liB_len, LZ]
  have q4 : (keyB nok K).length ≤ 5 + 8 * kn := by rw [← LK]; exact keyB_len nok K
  have q5 : (liB cn (rnN C)).length = 4 + 16 * cn := by rw [liB_len, rnN_len, LC]; omega
  have HQ := hide (And.intro q0 (And.intro q1 (And.intro q2 (And.intro q3 (And.intro q4 q5)))))
  have HLK := hide LK
  have HLC := hide LC
  have HNK := hide h.nok
  have HH := hide h
  have E0 := hide (Ext.alloc w (.cells #[.int .i64 st, .slice sA sn sc, .slice hA hn hc, .slice zA zn zc, .slice kA kn kc, .slice cA cn cc, .slice pA pn pc] 27))
  have X0 := hide (Blk.new w 27 #[.int .i64 st, .slice sA sn sc, .slice hA hn hc, .slice zA zn zc, .slice kA kn kc, .slice cA cn cc, .slice pA pn pc])
  have e1 := fun (W : World) => Lib.run_eql_slice_nil (P := Try.prog) W 23 3 kA kn kc 0 0 Try.underlying23
  have HLT : Hid (∀ (α : Type) (sz : Nat) (enc : α → List Value) (A : Option Addr) (n c : Nat) (l : List α), At w sz enc A n c l → (∀ x, (enc x).length = sz) → 0 < sz → 0 < n → ∀ a, A = some a → a.block < w.heap.size) := hide (fun α sz enc A n c l ha h1 h2 h3 => ha.blk_lt h1 h2 h3)
  clear h q0 q1 q2 q3 q4 q5 LS LH LZ LK LC LP
  go_enter Try.func34, Try.ntmps34
  go_upto_region 1 with (fail)
  refine gen_wpC fun w0 h0 => ?_
  have hs0 : w0.heap.size = w.heap.size + 1 := by rw [h0]; exact World.size_alloc _ _
  have F0 : Hid (Ext w w0) := hide (by rw [h0]; exact E0.out)
  have Y0 : Hid (Blk w0 w.heap.size 27 #[.int .i64 st, .slice sA sn sc, .slice hA hn hc, .slice zA zn zc, .slice kA kn kc, .slice cA cn cc, .slice pA pn pc]) := hide (by rw [h0]; exact X0.out)
  clear h0 E0 X0
  have x0 : w0.cell? ⟨w.heap.size, 0, none⟩ = some (.int .i64 st) := Y0.out.cell 0
  have u0 : IntKind.u64.wrap st = ((u64N st : Nat) : Int) := (u64N_cast st).symm
  have HA0 := hide (appendNumberG (w := w0) (n := u64N st) (many := 8) (z := 8) (base := w0.heap.size) (Own.nil w0 w0.heap.size 5 1 e8) (Nat.le_refl _) rfl (by omega) (u64N_lt _) (by simp))
  have HAL := hide (fun (W : World) (v : Value) (l : List UInt8) (many n c : Nat) (A : Option Addr) (ns : List Int) (ho : Own W w0.heap.size 5 1 e8 v l) (hE : Ext w0 W) (ha : At W 1 e64 A n c ns) (hlo : 0 < n → ∀ a, A = some a → some a.block ≠ v.ownBlock) (h1 : many ≤ 1000000) (h2 : n ≤ 1000000) (h3 : l.length ≤ 100000000) => (appendList_any ho hE.size ha hlo h1 h2 h3).mono (R' := fun e w' => ∃ v', e = .returned v' ∧ Own w' w0.heap.size 5 1 e8 v' (l ++ liB many ns) ∧ Ext w0 w') (fun e w' ⟨v', he, ho', hg⟩ => ⟨v', he, ho', Own.below ho hE hg.grown (Nat.le_refl _)⟩))
  go_wp2_with fail
  with_reducible refine HA0.out.mono ?_
  rintro e w1 ⟨v1, rfl, o1, g1⟩
  rw [List.nil_append] at o1
  have O1 := hide o1
  have E1 : Hid (Ext w0 w1) := hide (Own.below (Own.nil w0 w0.heap.size 5 1 e8) (Ext.refl _) g1.grown (Nat.le_refl _))
  clear o1 g1 HA0 x0 u0
  have HRN1 := hide (fun (W : World) (hW : Ext w0 W) => runNumbers_any (HH.out.steps.ext (Ext.trans F0.out hW)) (by omega))
  have x1 : w1.cell? ⟨w.heap.size, 1, none⟩ = some (.slice sA sn sc) := (Y0.out.ext E1.out).cell 1
  have z1 : w0.cell? ⟨w.heap.size, 1, none⟩ = some (.slice sA sn sc) := Y0.out.cell 1
  have HLL : Hid ((beN 8 (u64N st)).length ≤ 100000000) := hide (by have := HQ.out; first | (simp only [List.length_append]; omega) | omega)
  have HRL : Hid (∀ g, v1.ownBlock = some g → g < w1.heap.size) := hide (fun g hg => (O1.out.lt g hg).2)
  go_upto_region 2 with (fail)
  go_region_held3 (fun w' => w'.cell? ⟨w.heap.size, 1, none⟩ = some (.slice sA sn sc)) (first | go_keep | exact EA.cell x1 | exact EB.cell z1) (first
    | ((go_at_call 50; with_reducible refine (HRN1.out _ (Ext.trans E1.out (Ext.drew _))).mono ?_); rintro e wa ⟨R, rk, rc, rfl, ra, re, rl⟩; have EA : Ext w1 wa := Ext.trans (Ext.drew _) re; have RA := hide ra; have RL := hide rl; have RK : Hid (rk ≤ 1000000) := hide (by have h9 := ra.len; rw [rnN_len, HH.out.steps.len] at h9; omega); clear ra re rl)
    | ((go_at_call 49; with_reducible refine (HAL.out _ _ _ sn _ _ _ _ (O1.out.ext EA) (Ext.trans E1.out EA) RA.out (fun _ a ha e => by have h8 := HRL.out _ e.symm; have h9 := RL.out a ha; exact absurd (Nat.lt_of_lt_of_le h8 h9) (Nat.lt_irrefl _)) (by omega) RK.out HLL.out).mono ?_); rintro e w2 ⟨v2, rfl, o2, EB⟩))
  all_goals
    have O2 := hide o2
    have E2 : Hid (Ext w0 w2) := hide EB
    clear o2 EB EA RA RL RK x1 z1 HRN1 HLL HRL O1 E1
  have HRN2 := hide (fun (W : World) (hW : Ext w0 W) => runNumbers_any (HH.out.shifts.ext (Ext.trans F0.out hW)) (by omega))
  have x2 : w2.cell? ⟨w.heap.size, 2, none⟩ = some (.slice hA hn hc) := (Y0.out.ext E2.out).cell 2
  have z2 : w0.cell? ⟨w.heap.size, 2, none⟩ = some (.slice hA hn hc) := Y0.out.cell 2
  have HLL : Hid ((beN 8 (u64N st) ++ liB sn (rnN S)).length ≤ 100000000) := hide (by have := HQ.out; first | (simp only [List.length_append]; omega) | omega)
  have HRL : Hid (∀ g, v2.ownBlock = some g → g < w2.heap.size) := hide (fun g hg => (O2.out.lt g hg).2)
  go_upto_region 3 with (fail)
  go_region_held3 (fun w' => w'.cell? ⟨w.heap.size, 2, none⟩ = some (.slice hA hn hc)) (first | go_keep | exact EA.cell x2 | exact EB.cell z2) (first
    | ((go_at_call 50; with_reducible refine (HRN2.out _ (Ext.trans E2.out (Ext.drew _))).mono ?_); rintro e wa ⟨R, rk, rc, rfl, ra, re, rl⟩; have EA : Ext w2 wa := Ext.trans (Ext.drew _) re; have RA := hide ra; have RL := hide rl; have RK : Hid (rk ≤ 1000000) := hide (by have h9 := ra.len; rw [rnN_len, HH.out.shifts.len] at h9; omega); clear ra re rl)
    | ((go_at_call 49; with_reducible refine (HAL.out _ _ _ hn _ _ _ _ (O2.out.ext EA) (Ext.trans E2.out EA) RA.out (fun _ a ha e => by have h8 := HRL.out _ e.symm; have h9 := RL.out a ha; exact absurd (Nat.lt_of_lt_of_le h8 h9) (Nat.lt_irrefl _)) (by omega) RK.out HLL.out).mono ?_); rintro e w3 ⟨v3, rfl, o3, EB⟩))
  all_goals
    have O3 := hide o3
    have E3 : Hid (Ext w0 w3) := hide EB
    clear o3 EB EA RA RL RK x2 z2 HRN2 HLL HRL O2 E2
  have x3 : w3.cell? ⟨w.heap.size, 3, none⟩ = some (.slice zA zn zc) := (Y0.out.ext E3.out).cell 3
  have HLL : Hid ((beN 8 (u64N st) ++ liB sn (rnN S) ++ liB hn (rnN SH)).length ≤ 100000000) := hide (by have := HQ.out; first | (simp only [List.length_append]; omega) | omega)
  have HA4 := hide (HAL.out _ _ _ zn _ _ _ _ O3.out E3.out (HH.out.sizes.ext (Ext.trans F0.out E3.out)) (fun hz0 a ha e => by have h8 := (O3.out.lt _ e.symm).1; have h9 := HLT.out _ _ _ _ _ _ _ HH.out.sizes len_e64 (by omega) hz0 a ha; omega) (by omega) (by omega) HLL.out)
  go_wp2_with fail
  with_reducible refine HA4.out.mono ?_
  rintro e w4 ⟨v4, rfl, o4, E4_⟩
  have O4 := hide o4
  have E4 : Hid (Ext w0 w4) := hide E4_
  clear o4 E4_ HA4 x3 HLL O3 E3
  have x4 : w4.cell? ⟨w.heap.size, 4, none⟩ = some (.slice kA kn kc) := (Y0.out.ext E4.out).cell 4
  have y4 : w0.cell? ⟨w.heap.size, 4, none⟩ = some (.slice kA kn kc) := Y0.out.cell 4
  have HLL : Hid ((beN 8 (u64N st) ++ liB sn (rnN S) ++ liB hn (rnN SH) ++ liB zn Z).length ≤ 1000000) := hide (by have := HQ.out; first | (simp only [List.length_append]; omega) | omega)
  obtain ⟨i0_, hi0, hz0, hz1, hz2⟩ := info_parts Try.info5
  obtain ⟨j0_, hj0, hy0, hy1, hy2⟩ := info_parts Try.info3
  have S1 : Hid ((beN 8 (u64N st) ++ liB sn (rnN S) ++ liB hn (rnN SH) ++ liB zn Z).length + 1 ≤ maxLen) := hide (by have := HLL.out; unfold maxLen; omega)
  have S2 : Hid (((beN 8 (u64N st) ++ liB sn (rnN S) ++ liB hn (rnN SH) ++ liB zn Z).length + 1) * 1 ≤ 140737488355328) := hide (by have := HLL.out; omega)
  have hsz4 := E4.out.size
  generalize hl4 : (beN 8 (u64N st) ++ liB sn (rnN S) ++ liB hn (rnN SH) ++ liB zn Z) = l4 at *
  have HL4 := hide hl4
  clear hl4
  go_upto_if 36 with (fail)
  go_cut [3] (fun s3 wx => Hid (Own wx w0.heap.size 5 1 e8 s3 (l4 ++ keyB nok K)) ∧ Hid (Ext w0 wx))
  case first =>
    cases hk : nok with
    | true =>
      have hkA : kA = none := HNK.out.2 hk
      have dk : kA.isNone = true := by rw [hkA]; rfl
      have HKB : Hid (keyB nok K = [0]) := hide (by rw [hk]; rfl)
      rw [dk]
      have S3 : Hid (w0.heap.size ≤ (w4.alloc (.cells #[.int .u8 0] 5)).heap.size) := hide (by rw [World.size_alloc]; omega)
      clear hkA hk
      go_wp2_with (at_builtin; refine wpList_append_at _ rfl (.tmp 37) (.tmp 38) 38 rfl w0.heap.size 5 i0_ _ 1 Try.underlying38 hi0 hz0 hz1 hz2 rfl (by omega) len_e8 one_e8 _ _ (by rfl) (O4.out.ext (Ext.alloc _ _)) (some ⟨w4.heap.size, 0, none⟩) 1 1 [0] (by rfl) (At.new1 w4 0 _ rfl _) S1.out S2.out S3.out ?_; intro v7 w7 o7 g7 _ _; have O7 := hide o7; have E7 : Hid (Ext w0 w7) := hide (Own.below (O4.out.ext (Ext.alloc _ _)) (Ext.trans E4.out (Ext.alloc _ _)) g7 (Nat.le_refl _)); clear o7 g7)
      go_meet
      exact ⟨hide (by rw [HKB.out]; exact O7.out), E7⟩
    | false =>
      have hkA : ¬ kA = none := fun e => by have := HNK.out.1 e; rw [hk] at this; cases this
      have dk : kA.isNone = false := by cases kA with
        | none => exact absurd rfl hkA
        | some a => rfl
      have HKB : Hid (keyB nok K = [1] ++ liB kn K) := hide (by rw [hk]; unfold keyB; rw [if_neg (by simp), HLK.out])
      rw [dk]
      have S3 : Hid (w0.heap.size ≤ (w4.alloc (.cells #[.int .u8 1] 5)).heap.size) := hide (by rw [World.size_alloc]; omega)
      clear hkA hk
      go_wp2_with fail
      go_region_held3 (fun w' => w'.cell? ⟨w.heap.size, 4, none⟩ = some (.slice kA kn kc)) (first | go_keep | exact (Ext.alloc _ _).cell x4 | exact E7.cell y4 | exact EB.cell y4 | exact E4.out.cell y4 | exact (Ext.trans E4.out (by first | exact Ext.trans (Ext.drew _) (Ext.alloc _ _) | exact Ext.trans (Ext.alloc _ _) (Ext.drew _))).cell y4) (first
        | ((refine step_append_at rfl (.tmp 40) (.tmp 41) 38 rfl w0.heap.size 5 i0_ _ 1 Try.underlying38 hi0 hz0 hz1 hz2 rfl (by omega) len_e8 one_e8 _ _ (by simp [Act.eval]) (O4.out.ext (Ext.trans (Ext.drew _) (Ext.alloc _ _))) (some ⟨w4.drew.heap.size, 0, none⟩) 1 1 [1] (by simp [Act.eval]) (At.new1 w4.drew 1 _ rfl _) S1.out S2.out S3.out ?_); intro v7 w7 o7 g7 _ _; have O7 := hide o7; have E7 : Ext w0 w7 := Own.below (O4.out.ext (Ext.trans (Ext.drew _) (Ext.alloc _ _))) (Ext.trans E4.out (Ext.trans (Ext.drew _) (Ext.alloc _ _))) g7 (Nat.le_refl _); clear o7 g7)
        | ((go_at_call 49; with_reducible refine (HAL.out _ _ _ kn _ _ _ _ O7.out E7 (HH.out.keys.ext (Ext.trans F0.out E7)) (fun hz0 a ha e => by have h8 := (O7.out.lt _ e.symm).1; have h9 := HLT.out _ _ _ _ _ _ _ HH.out.keys len_e64 (by omega) hz0 a ha; omega) (by omega) (by omega) (by have := HLL.out; rw [List.length_append]; simp; omega)).mono ?_); rintro e w8 ⟨v8, rfl, o8, EB⟩))
      all_goals
        have O8 := hide o8
        have E8 : Hid (Ext w0 w8) := hide EB
        clear o8 EB
        go_wp2_with fail
        go_meet
        exact ⟨hide (by rw [HKB.out, ← List.append_assoc]; exact O8.out), E8⟩
  case rest =>
  obtain ⟨O5, E5⟩ := hcut
  obtain ⟨w5, hw5⟩ : ∃ w5, w5 = wc := ⟨_, rfl⟩
  subst hw5
  clear O4 E4 x4 y4 S1 S2 e1 hi0 hz0 hz1 hz2
  have HL5 : Hid ((l4 ++ keyB nok K).length ≤ 10000000) := hide (by have h9 := HQ.out.2.2.2.2.1; have := HLL.out; rw [List.length_append]; omega)
  clear HLL hsz4
  generalize hl5 : l4 ++ keyB nok K = l5 at *
  have HLE5 := hide hl5
  clear hl5
  have x5 : w5.cell? ⟨w.heap.size, 5, none⟩ = some (.slice cA cn cc) := (Y0.out.ext E5.out).cell 5
  go_wp2_with fail
  go_loopw [4, 52] (fun r4 ri wr => ∃ k : Nat, k ≤ cn ∧ ri = .int .i64 k ∧ Hid (Own wr w5.heap.size 3 1 e64 r4 (rnN (C.take k))) ∧ Hid (Ext w5 wr)) (fun _ ri _ => cn - (intOf ri).toNat)
  case atStart => exact ⟨0, by omega, rfl, hide (by simpa [rnN] using Own.nil _ _ _ _ _), hide (Ext.refl _)⟩
  case round =>
    obtain ⟨k, hk, rfl, HO, HX⟩ := hrel
    have HXW := hide (Ext.trans F0.out (Ext.trans E5.out HX.out))
    by_cases hlt : k < cn
    · obtain ⟨b, off, rfl, _⟩ := HH.out.chunks.addr (by omega)
      obtain ⟨a0, a1⟩ := (HH.out.chunks.ext HXW.out).pair hlt
      simp only at a0 a1
      have HSU : Hid (rnN (C.take (k + 1)) = rnN (C.take k) ++ [(C.getD k (0, 0)).1, (C.getD k (0, 0)).2]) := hide (rnN_take (by have := HLC.out; omega))
      generalize (C.getD k (0, 0)).1 = x at *
      generalize (C.getD k (0, 0)).2 = y at *
      have hlk : (rnN (C.take k)).length = 2 * k := by rw [rnN_len, List.length_take]; have := HLC.out; omega
      have i1 : (k : Int) < (cn : Int) := by omega
      have i0 : (0 : Int) ≤ (k : Int) := by omega
      have i8 : IntKind.i64.wrap ((k : Int) + 1) = (k : Int) + 1 := by rw [IntKind.wrap_i64]; omega
      have S1 : Hid ((rnN (C.take k)).length + 2 ≤ maxLen) := hide (by rw [hlk]; unfold maxLen; omega)
      have S2 : Hid (((rnN (C.take k)).length + 2) * 8 ≤ 140737488355328) := hide (by rw [hlk]; omega)
      clear hlk
      go_upto_region 12 with (fail)
      refine gen_wpC fun w6 h6 => ?_
      have F6 : Hid (Ext wr w6) := hide (by rw [h6]; exact Ext.alloc _ _)
      have y0 : w6.cell? ⟨wr.heap.size, 0, none⟩ = some (.int .i64 x) := by rw [h6]; exact (Blk.new wr _ _).cell 0
      have y1 : w6.cell? ⟨wr.heap.size, 1, none⟩ = some (.int .i64 y) := by rw [h6]; exact (Blk.new wr _ _).cell 1
      have S3 : Hid (w5.heap.size ≤ (w6.alloc (.cells #[.int .i64 x, .int .i64 y] 3)).heap.size) := hide (by have := (Ext.trans HX.out F6.out).size; rw [World.size_alloc]; omega)
      clear h6 a0 a1
      go_wp2_with (at_builtin; refine wpList_append_at _ rfl (.tmp 56) (.tmp 61) 23 rfl w5.heap.size 3 j0_ _ 8 Try.underlying23 hj0 hy0 hy1 hy2 rfl (by omega) len_e64 one_e64 _ _ (by rfl) (HO.out.ext (Ext.trans F6.out (Ext.alloc _ _))) (some ⟨w6.heap.size, 0, none⟩) 2 2 [x, y] (by rfl) (At.newI2 w6 x y _) S1.out S2.out S3.out ?_; intro v7 w7 o7 g7 _ _; have O7 := hide o7; have G7 := hide g7; clear o7 g7)
      have E7 : Hid (Ext w5 w7) := hide (Own.below (HO.out.ext (Ext.trans F6.out (Ext.alloc _ _))) (Ext.trans HX.out (Ext.trans F6.out (Ext.alloc _ _))) G7.out (Nat.le_refl _))
      exact ⟨⟨k + 1, by omega, by go_num, hide (by rw [HSU.out]; exact O7.out), E7⟩, by simp [intOf]; omega⟩
    · obtain rfl : k = cn := by omega
      obtain ⟨vA, vc, hv, hat⟩ := HO.out.at_ len_e64
      have hln : (rnN (C.take k)).length = 2 * k := by rw [rnN_len, List.length_take]; have := HLC.out; omega
      have HTK : Hid (C.take k = C) := hide (List.take_of_length_le (by have := HLC.out; omega))
      have HAT := hide hat
      have HLO := HO.out.lt
      subst hv
      have EW := hide (Ext.trans E5.out HX.out)
      have HRL : Hid (∀ g, u3.ownBlock = some g → g < w5.heap.size) := hide (fun g hg => (O5.out.lt g hg).2)
      have x5 : wr.cell? ⟨w.heap.size, 5, none⟩ = some (.slice cA k cc) := (Y0.out.ext EW.out).cell 5
      have HA5 := hide (HAL.out _ _ _ k _ _ _ _ (O5.out.ext HX.out) EW.out HAT.out (fun _ a ha e => by subst ha; have h8 := HRL.out _ e.symm; have h9 := (HLO a.block rfl).1; omega) (by omega) (by omega) (by have := HL5.out; omega))
      clear hlt hat hln
      go_wp2_with fail
      with_reducible refine HA5.out.mono ?_
      rintro e w6 ⟨v6, rfl, o6, E6_⟩
      rw [HTK.out] at o6
      have O6 := hide o6
      have E6 : Hid (Ext w0 w6) := hide E6_
      clear o6 E6_ HA5 x5
      have x6 : w6.cell? ⟨w.heap.size, 6, none⟩ = some (.slice pA pn pc) := (Y0.out.ext E6.out).cell 6
      have HA6 := hide (HAL.out _ _ _ pn _ _ _ _ O6.out E6.out (HH.out.places.ext (Ext.trans F0.out E6.out)) (fun hz0 a ha e => by have h8 := (O6.out.lt _ e.symm).1; have h9 := HLT.out _ _ _ _ _ _ _ HH.out.places len_e64 (by omega) hz0 a ha; omega) (by omega) (by omega) (by have := HL5.out; have h9 := HQ.out.2.2.2.2.2; rw [List.length_append]; omega))
      go_wp2_with fail
      with_reducible refine HA6.out.mono ?_
      rintro e w7 ⟨v7, rfl, o7, E7_⟩
      have E7 : Hid (Ext w0 w7) := hide E7_
      obtain ⟨A7, c7, hv7, _⟩ := o7.at_ len_e8
      subst hv7
      have O7 := hide o7
      clear o7 E7_ HA6 x6
      go_wp2_with fail
      go_ret
      refine ⟨_, _, _, rfl, ?_, Ext.trans F0.out E7.out⟩
      rw [HTB.out, ← hs0]
      have h9 := O7.out
      rw [show (l5 ++ liB k (rnN C) ++ liB pn P).length = l5.length + ((liB k (rnN C)).length + (liB pn P).length) from by simp only [List.length_append]; omega] at h9
      exact h9
end Go.Proofs.Ytkdmfkpkelnheaa
namespace Go.Proofs.Ytkdmfkpkelnheaa
open Go.RowKit
/-- What TableBytes gives. -/
def tbL (t : Tab) : List UInt8 := if tabF t = 0 then tabBy t else []
set_option linter.unusedVariables false in
set_option maxRecDepth 100000 in
set_option maxHeartbeats 4000000 in
theorem keyTabBytes_any {sA : Option Addr} {sn sc : Nat} {hA : Option Addr} {hn hc : Nat} {zA : Option Addr} {zn zc : Nat} {kA : Option Addr} {kn kc : Nat} {cA : Option Addr} {cn cc : Nat} {pA : Option Addr} {pn pc : Nat} {t : Tab} {w : World} (h : TabAt w sA sn sc hA hn hc zA zn zc kA kn kc cA cn cc pA pn pc t) (hz : TabSz sn hn zn kn cn pn) :
    Calls Try.prog 14 #[.agg #[.int .i64 t.start, .slice sA sn sc, .slice hA hn hc, .slice zA zn zc, .slice kA kn kc, .slice cA cn cc, .slice pA pn pc]] w (Gives 1 e8 w (tbL t) (tabF t)) := by
  have E0 := hide (Ext.alloc w (.cells #[.int .i64 t.start, .slice sA sn sc, .slice hA hn hc, .slice zA zn zc, .slice kA kn kc, .slice cA cn cc, .slice pA pn pc] 27))
  have X0 := hide (Blk.new w 27 #[.int .i64 t.start, .slice sA sn sc, .slice hA hn hc, .slice zA zn zc, .slice kA kn kc, .slice cA cn cc, .slice pA pn pc])
  have HC := hide (checkTable_any (h.ext E0.out) rfl hz)
  have HIN := hide (fun (hf : tabF t = 0) (W : World) (hW : Ext w W) => tableBytes_in (h.ext hW) rfl (by
    have hr := tab_few (tab_right hf)
    have l1 := h.steps.len
    have l2 := h.shifts.len
    have l3 := h.sizes.len
    have l4 := h.keys.len
    have l5 := h.chunks.len
    have l6 := h.places.len
    exact ⟨by omega, by omega, by omega, by omega, by omega, by omega⟩))
  have HTL : Hid (tbL t = if tabF t = 0 then tabBy t else []) := hide rfl
  clear h
  by_cases hf : tabF t = 0
  · have HI := hide (HIN.out hf)
    have HV : Hid (tbL t = tabBy t) := hide (by rw [HTL.out, if_pos hf])
    have HF0 := hide hf
    rw [hf] at HC
    clear hf HIN HTL
    go_enter Try.func14, Try.ntmps14
    go_wp2_with fail
    with_reducible refine HC.out.mono ?_
    rintro e w1 ⟨rfl, e1⟩
    have E1 := hide (Ext.trans E0.out e1)
    have X1 := hide (X0.out.ext e1)
    clear e1
    have x0 : w1.cell? ⟨w.heap.size, 0, none⟩ = some (.int .i64 t.start) := X1.out.cell 0
    have x1 : w1.cell? ⟨w.heap.size, 1, none⟩ = some (.slice sA sn sc) := X1.out.cell 1
    have x2 : w1.cell? ⟨w.heap.size, 2, none⟩ = some (.slice hA hn hc) := X1.out.cell 2
    have x3 : w1.cell? ⟨w.heap.size, 3, none⟩ = some (.slice zA zn zc) := X1.out.cell 3
    have x4 : w1.cell? ⟨w.heap.size, 4, none⟩ = some (.slice kA kn kc) := X1.out.cell 4
    have x5 : w1.cell? ⟨w.heap.size, 5, none⟩ = some (.slice cA cn cc) := X1.out.cell 5
    have x6 : w1.cell? ⟨w.heap.size, 6, none⟩ = some (.slice pA pn pc) := X1.out.cell 6
    go_wp2_with fail
    with_reducible refine (HI.out _ E1.out).mono ?_
    rintro e w2 ⟨T, k, tc, rfl, o2, e2⟩
    have E2 := hide (Ext.trans E1.out e2)
    have A2 := hide (o2.atS len_e8)
    clear o2 e2
    go_wp2_with fail
    go_ret2
    rw [HF0.out, HV.out]
    exact ⟨_, _, _, rfl, A2.out, E2.out⟩
  · have HV : Hid (tbL t = []) := hide (by rw [HTL.out, if_neg hf])
    have HF0 := hide hf
    have d0 : (tabF t != 0) = true := by simp [hf]
    clear hf HIN HTL
    go_enter Try.func14, Try.ntmps14
    go_wp2_with fail
    with_reducible refine HC.out.mono ?_
    rintro e w1 ⟨rfl, e1⟩
    have E1 := hide (Ext.trans E0.out e1)
    clear e1
    go_wp2_with fail
    go_ret2
    rw [HV.out]
    exact gives_nil _ E1.out
end Go.Proofs.Ytkdmfkpkelnheaa
namespace Go.Proofs.Ytkdmfkpkelnheaa
open Go.RowKit
/-- What a writer of new bytes gives. -/
def NewB (w : World) (l : List UInt8) (e : Ending) (w' : World) : Prop := ∃ v, e = .returned v ∧ Own w' w.heap.size 5 1 e8 v l ∧ Ext w w'
theorem u64n_N (x : Int) : u64n x = u64N x := rfl
theorem u64N_nat {n : Nat} (h : n < 18446744073709551616) : u64N (n : Int) = n := by unfold u64N; rw [IntKind.wrap_u64]; omega
theorem lsB_two (l : List Int) (x y : Int) : lsB (l ++ [x, y]) = lsB l ++ beN 8 (u64N x) ++ beN 8 (u64N y) := by unfold lsB; rw [List.flatMap_append]; simp
set_option linter.unusedVariables false in
set_option maxRecDepth 100000 in
set_option maxHeartbeats 4000000 in
theorem refRunBytes_any {A : Option Addr} {n c : Nat} {l : List (Int × Int)} {w : World} (h : At w 2 e2 A n c l) (hn : n ≤ 1000000) :
    Calls Try.prog 52 #[.slice A n c] w (NewB w (liB l.length (rnN l))) := by
  have H := hide h
  have HL := hide h.len
  have HWN := hide (fun (W : World) => wrtO (w := W) (x := (n : Int)) 4 4 rfl (by omega))
  have HUN : Hid (u64n (n : Int) = l.length) := hide (by rw [u64n_N, u64N_nat (by omega), h.len])
  have HLB : Hid (∀ k, (liB l.length (rnN (l.take k))).length ≤ 100000000) := hide (fun k => by rw [liB_len, rnN_len, List.length_take]; have := h.len; omega)
  obtain ⟨i0_, hi0, hz0, hz1, hz2⟩ := info_parts Try.info5
  clear h
  go_enter Try.func52, Try.ntmps52
  go_wp2_with fail
  with_reducible refine (HWN.out _).mono ?_
  rintro e w1 ⟨g1, rfl, o1, e1⟩
  rw [HUN.out] at o1
  have O1 := hide o1
  have E1 := hide e1
  clear o1 e1 HWN HUN
  go_wp2_with fail
  go_loopw [3, 4] (fun r3 ri wr => ∃ k : Nat, k ≤ n ∧ ri = .int .i64 k ∧ Hid (Own wr w.heap.size 5 1 e8 r3 (liB l.length (rnN (l.take k)))) ∧ Hid (Ext w wr)) (fun _ ri _ => n - (intOf ri).toNat)
  case atStart => exact ⟨0, by omega, rfl, hide (by simpa [liB, rnN, lsB] using O1.out), E1⟩
  case round =>
    clear O1 E1
    obtain ⟨k, hk, rfl, HO, HX⟩ := hrel
    by_cases hlt : k < n
    · obtain ⟨b, off, rfl, _⟩ := H.out.addr (by omega)
      obtain ⟨a0, a1⟩ := (H.out.ext HX.out).pair hlt
      have HPR := hide (fun (W : World) (hW : Ext w W) => (H.out.ext hW).pair hlt)
      have HSU : Hid (liB l.length (rnN (l.take (k + 1))) = liB l.length (rnN (l.take k)) ++ beN 8 (u64n (l.getD k (0, 0)).1) ++ beN 8 (u64n (l.getD k (0, 0)).2)) := hide (by rw [rnN_take (by have := HL.out; omega)]; unfold liB; rw [lsB_two, u64n_N, u64n_N]; simp only [List.append_assoc])
      generalize (l.getD k (0, 0)).1 = x at *
      generalize (l.getD k (0, 0)).2 = y at *
      have hlk := HLB.out k
      generalize liB l.length (rnN (l.take k)) = acc at *
      have i1 : (k : Int) < (n : Int) := by omega
      have i0 : (0 : Int) ≤ (k : Int) := by omega
      have i8 : IntKind.i64.wrap ((k : Int) + 1) = (k : Int) + 1 := by rw [IntKind.wrap_i64]; omega
      have S1 : Hid (acc.length + 8 ≤ maxLen) := hide (by unfold maxLen; omega)
      have S2 : Hid ((acc.length + 8) * 1 ≤ 140737488355328) := hide (by omega)
      have T1 : Hid ((acc ++ beN 8 (u64n x)).length + 8 ≤ maxLen) := hide (by rw [List.length_append, beN_len]; unfold maxLen; omega)
      have T2 : Hid (((acc ++ beN 8 (u64n x)).length + 8) * 1 ≤ 140737488355328) := hide (by rw [List.length_append, beN_len]; omega)
      have HW1 := hide (fun (W : World) => wrtO (w := W) (x := x) 8 8 rfl (by omega))
      have HW2 := hide (fun (W : World) => wrtO (w := W) (x := y) 8 8 rfl (by omega))
      clear hlk
      go_wp2_with fail
      with_reducible refine (HW1.out _).mono ?_
      rintro e w4 ⟨g4, rfl, o4, e4⟩
      have A4 := hide (o4.atS len_e8)
      have OB := hide (HO.out.ext e4)
      have E4 := hide (Ext.trans HX.out e4)
      have S3 := hide (ext_size E4.out)
      clear o4 e4 a0 a1 HO HX
      go_upto_region 6 with (at_builtin; refine wpList_append_at _ rfl (.tmp 14) (.tmp 20) 38 rfl w.heap.size 5 i0_ _ 1 Try.underlying38 hi0 hz0 hz1 hz2 rfl (by omega) len_e8 one_e8 _ _ (by rfl) OB.out (some ⟨g4, 0, none⟩) 8 8 _ (by rfl) A4.out S1.out S2.out S3.out ?_; intro v5 w5 o5 g5 _ _; have O5 := hide o5; have G5 := hide g5; clear o5 g5)
      have E5 := hide (OB.out.below E4.out G5.out (Nat.le_refl _))
      obtain ⟨c0, c1⟩ := HPR.out _ E5.out
      clear OB E4 G5 A4 HPR
      go_wp2_with fail
      with_reducible refine (HW2.out _).mono ?_
      rintro e w6 ⟨g6, rfl, o6, e6⟩
      have A6 := hide (o6.atS len_e8)
      have OC := hide (O5.out.ext e6)
      have E6 := hide (Ext.trans E5.out e6)
      have T3 := hide (ext_size E6.out)
      clear o6 e6 c0 c1 O5 E5
      go_wp2_with (at_builtin; refine wpList_append_at _ rfl (.tmp 22) (.tmp 28) 38 rfl w.heap.size 5 i0_ _ 1 Try.underlying38 hi0 hz0 hz1 hz2 rfl (by omega) len_e8 one_e8 _ _ (by rfl) OC.out (some ⟨g6, 0, none⟩) 8 8 _ (by rfl) A6.out T1.out T2.out T3.out ?_; intro v7 w7 o7 g7 _ _; have O7 := hide o7; have G7 := hide g7; clear o7 g7)
      exact ⟨⟨k + 1, by omega, by go_num, hide (by rw [HSU.out]; exact O7.out), hide (OC.out.below E6.out G7.out (Nat.le_refl _))⟩, by simp [intOf]; omega⟩
    · obtain rfl : k = n := by omega
      have HTK : Hid (l.take k = l) := hide (List.take_of_length_le (by have := HL.out; omega))
      go_wp2_with fail
      go_ret
      exact ⟨_, rfl, by have := HO.out; rw [HTK.out] at this; exact this, HX.out⟩
set_option linter.unusedVariables false in
set_option maxRecDepth 100000 in
set_option maxHeartbeats 4000000 in
theorem refListBytes_any {A : Option Addr} {n c : Nat} {l : List Int} {w : World} (h : At w 1 e64 A n c l) (hn : n ≤ 1000000) :
    Calls Try.prog 53 #[.slice A n c] w (NewB w (liB l.length l)) := by
  have H := hide h
  have HL := hide h.len
  have HWN := hide (fun (W : World) => wrtO (w := W) (x := (n : Int)) 4 4 rfl (by omega))
  have HUN : Hid (u64n (n : Int) = l.length) := hide (by rw [u64n_N, u64N_nat (by omega), h.len])
  have HLB : Hid (∀ k, (liB l.length (l.take k)).length ≤ 100000000) := hide (fun k => by rw [liB_len, List.length_take]; have := h.len; omega)
  obtain ⟨i0_, hi0, hz0, hz1, hz2⟩ := info_parts Try.info5
  clear h
  go_enter Try.func53, Try.ntmps53
  go_wp2_with fail
  with_reducible refine (HWN.out _).mono ?_
  rintro e w1 ⟨g1, rfl, o1, e1⟩
  rw [HUN.out] at o1
  have O1 := hide o1
  have E1 := hide e1
  clear o1 e1 HWN HUN
  go_wp2_with fail
  go_loopw [3, 4] (fun r3 ri wr => ∃ k : Nat, k ≤ n ∧ ri = .int .i64 k ∧ Hid (Own wr w.heap.size 5 1 e8 r3 (liB l.length (l.take k))) ∧ Hid (Ext w wr)) (fun _ ri _ => n - (intOf ri).toNat)
  case atStart => exact ⟨0, by omega, rfl, hide (by simpa [liB, lsB] using O1.out), E1⟩
  case round =>
    clear O1 E1
    obtain ⟨k, hk, rfl, HO, HX⟩ := hrel
    by_cases hlt : k < n
    · obtain ⟨b, off, rfl, _⟩ := H.out.addr (by omega)
      have a0 := (H.out.ext HX.out).cellK hlt 0 0 _ rfl
      simp only [Nat.mul_one, Nat.add_zero] at a0
      have HSU : Hid (liB l.length (l.take (k + 1)) = liB l.length (l.take k) ++ beN 8 (u64n (l.getD k 0))) := hide (by unfold liB; rw [lsB_take (by have := HL.out; omega), u64n_N, List.append_assoc])
      generalize l.getD k 0 = x at *
      have hlk := HLB.out k
      generalize liB l.length (l.take k) = acc at *
      have i1 : (k : Int) < (n : Int) := by omega
      have i0 : (0 : Int) ≤ (k : Int) := by omega
      have i8 : IntKind.i64.wrap ((k : Int) + 1) = (k : Int) + 1 := by rw [IntKind.wrap_i64]; omega
      have S1 : Hid (acc.length + 8 ≤ maxLen) := hide (by unfold maxLen; omega)
      have S2 : Hid ((acc.length + 8) * 1 ≤ 140737488355328) := hide (by omega)
      have HW1 := hide (fun (W : World) => wrtO (w := W) (x := x) 8 8 rfl (by omega))
      clear hlk
      go_wp2_with fail
      with_reducible refine (HW1.out _).mono ?_
      rintro e w4 ⟨g4, rfl, o4, e4⟩
      have A4 := hide (o4.atS len_e8)
      have OB := hide (HO.out.ext e4)
      have E4 := hide (Ext.trans HX.out e4)
      have S3 := hide (ext_size E4.out)
      clear o4 e4 a0 HO HX
      go_wp2_with (at_builtin; refine wpList_append_at _ rfl (.tmp 14) (.tmp 19) 38 rfl w.heap.size 5 i0_ _ 1 Try.underlying38 hi0 hz0 hz1 hz2 rfl (by omega) len_e8 one_e8 _ _ (by rfl) OB.out (some ⟨g4, 0, none⟩) 8 8 _ (by rfl) A4.out S1.out S2.out S3.out ?_; intro v5 w5 o5 g5 _ _; have O5 := hide o5; have G5 := hide g5; clear o5 g5)
      exact ⟨⟨k + 1, by omega, by go_num, hide (by rw [HSU.out]; exact O5.out), hide (OB.out.below E4.out G5.out (Nat.le_refl _))⟩, by simp [intOf]; omega⟩
    · obtain rfl : k = n := by omega
      have HTK : Hid (l.take k = l) := hide (List.take_of_length_le (by have := HL.out; omega))
      go_wp2_with fail
      go_ret
      exact ⟨_, rfl, by have := HO.out; rw [HTK.out] at this; exact this, HX.out⟩
end Go.Proofs.Ytkdmfkpkelnheaa
namespace Go.Proofs.Ytkdmfkpkelnheaa
open Go.RowKit
set_option linter.unusedVariables false in
set_option linter.unusedSimpArgs false in
set_option maxRecDepth 100000 in
set_option maxHeartbeats 16000000 in
theorem refTableBytes_in {sA : Option Addr} {sn sc : Nat} {hA : Option Addr} {hn hc : Nat} {zA : Option Addr} {zn zc : Nat} {kA : Option Addr} {kn kc : Nat} {cA : Option Addr} {cn cc : Nat} {pA : Option Addr} {pn pc : Nat} {t : Tab} {w : World} (h : TabAt w sA sn sc hA hn hc zA zn zc kA kn kc cA cn cc pA pn pc t) (hf : TabFw sn hn zn kn cn pn) :
    Calls Try.prog 35 #[.agg #[.int .i64 t.start, .slice sA sn sc, .slice hA hn hc, .slice zA zn zc, .slice kA kn kc, .slice cA cn cc, .slice pA pn pc]] w (NewB w (tabBy t)) := by
  obtain ⟨st, S, SH, Z, K, nok, C, P⟩ := t
  simp only at h ⊢
  obtain ⟨f1, f2, f3, f4, f5, f6⟩ := hf
  have LS : S.length = sn := h.steps.len
  have LH : SH.length = hn := h.shifts.len
  have LZ : Z.length = zn := h.sizes.len
  have LK : K.length = kn := h.keys.len
  have LC : C.length = cn := h.chunks.len
  have LP : P.length = pn := h.places.len
  obtain ⟨p0, hp0⟩ : ∃ p, p = beN 8 (u64N st) := ⟨_, rfl⟩
  obtain ⟨p1, hp1⟩ : ∃ p, p = liB S.length (rnN S) := ⟨_, rfl⟩
  obtain ⟨p2, hp2⟩ : ∃ p, p = liB SH.length (rnN SH) := ⟨_, rfl⟩
  obtain ⟨p3, hp3⟩ : ∃ p, p = liB Z.length Z := ⟨_, rfl⟩
  obtain ⟨p4, hp4⟩ : ∃ p, p = keyB nok K := ⟨_, rfl⟩
  obtain ⟨p6, hp6⟩ : ∃ p, p = liB P.length P := ⟨_, rfl⟩
  have HTB : Hid (tabBy ⟨st, S, SH, Z, K, nok, C, P⟩ = p0 ++ p1 ++ p2 ++ p3 ++ p4 ++ liB C.length (rnN C) ++ p6) := hide (by rw [hp0, hp1, hp2, hp3, hp4, hp6]; rfl)
  have q0 : p0.length = 8 := by rw [hp0]; exact beN_len _ _
  have q1 : p1.length ≤ 100000 := by rw [hp1, liB_len, rnN_len]; omega
  have q2 : p2.length ≤ 100000 := by rw [hp2, liB_len, rnN_len]; omega
  have q3 : p3.length ≤ 100000 := by rw [hp3, liB_len]; omega
  have q4 : p4.length ≤ 100000 := by rw [hp4]; have := keyB_len nok K; omega
  have q5 : ∀ k, (liB C.length (rnN (C.take k))).length ≤ 100000 := fun k => by rw [liB_len, rnN_len, List.length_take]; omega
  have q6 : p6.length ≤ 100000 := by rw [hp6, liB_len]; omega
  have HQ := hide (And.intro q0 (And.intro q1 (And.intro q2 (And.intro q3 (And.intro q4 (And.intro q5 q6))))))
  have HLC := hide LC
  have HNK := hide h.nok
  have HP4 := hide hp4
  have HH := hide h
  have E0 := hide (Ext.alloc w (.cells #[.int .i64 st, .slice sA sn sc, .slice hA hn hc, .slice zA zn zc, .slice kA kn kc, .slice cA cn cc, .slice pA pn pc] 27))
  have X0 := hide (Blk.new w 27 #[.int .i64 st, .slice sA sn sc, .slice hA hn hc, .slice zA zn zc, .slice kA kn kc, .slice cA cn cc, .slice pA pn pc])
  have e1 := fun (W : World) => Lib.run_eql_slice_nil (P := Try.prog) W 23 3 kA kn kc 0 0 Try.underlying23
  have HW0 := hide (fun (W : World) => (by have := wrtO (w := W) (x := st) 8 8 rfl (by omega); rw [u64n_N, ← hp0] at this; exact this : Calls Try.prog 51 #[.int .i64 st, .int .i64 8] W fun e w' => ∃ g, e = .returned (.slice (some ⟨g, 0, none⟩) 8 8) ∧ Own w' W.heap.size 5 1 e8 (.slice (some ⟨g, 0, none⟩) 8 8) p0 ∧ Ext W w'))
  have HR1 := hide (fun (W : World) (hW : Ext w W) => (by have := refRunBytes_any (h.steps.ext hW) (by omega); rw [← hp1] at this; exact this : Calls Try.prog 52 #[.slice sA sn sc] W (NewB W p1)))
  have HR2 := hide (fun (W : World) (hW : Ext w W) => (by have := refRunBytes_any (h.shifts.ext hW) (by omega); rw [← hp2] at this; exact this : Calls Try.prog 52 #[.slice hA hn hc] W (NewB W p2)))
  have HR3 := hide (fun (W : World) (hW : Ext w W) => (by have := refListBytes_any (h.sizes.ext hW) (by omega); rw [← hp3] at this; exact this : Calls Try.prog 53 #[.slice zA zn zc] W (NewB W p3)))
  have HR4 := hide (fun (W : World) (hW : Ext w W) => refListBytes_any (h.keys.ext hW) (by omega))
  have HR5 := hide (fun (W : World) => (by have := wrtO (w := W) (x := (cn : Int)) 4 4 rfl (by omega); rw [u64n_N, u64N_nat (by omega), ← LC] at this; rw [LC] at this ⊢; exact this : Calls Try.prog 51 #[.int .i64 (cn : Int), .int .i64 4] W fun e w' => ∃ g, e = .returned (.slice (some ⟨g, 0, none⟩) 4 4) ∧ Own w' W.heap.size 5 1 e8 (.slice (some ⟨g, 0, none⟩) 4 4) (beN 4 C.length) ∧ Ext W w'))
  have HR6 := hide (fun (W : World) (hW : Ext w W) => (by have := refListBytes_any (h.places.ext hW) (by omega); rw [← hp6] at this; exact this : Calls Try.prog 53 #[.slice pA pn pc] W (NewB W p6)))
  obtain ⟨i0_, hi0, hz0, hz1, hz2⟩ := info_parts Try.info5
  clear h q0 q1 q2 q3 q4 q5 q6 LS LH LZ LK LC LP hp0 hp1 hp2 hp3 hp4 hp6
  go_enter Try.func35, Try.ntmps35
  go_upto_region 1 with (fail)
  refine gen_wpC fun w0 h0 => ?_
  have F0 : Hid (Ext w w0) := hide (by rw [h0]; exact E0.out)
  have Y0 : Hid (Blk w0 w.heap.size 27 #[.int .i64 st, .slice sA sn sc, .slice hA hn hc, .slice zA zn zc, .slice kA kn kc, .slice cA cn cc, .slice pA pn pc]) := hide (by rw [h0]; exact X0.out)
  clear h0 E0 X0
  have x0 : w0.cell? ⟨w.heap.size, 0, none⟩ = some (.int .i64 st) := Y0.out.cell 0
  go_wp2_with fail
  with_reducible refine (HW0.out _).mono ?_
  rintro e w1 ⟨g1, rfl, o1, e1_⟩
  have O1 := hide o1
  have E1 : Hid (Ext w0 w1) := hide e1_
  have L1 : Hid (p0.length ≤ 100000) := hide (by have := HQ.out.1; omega)
  clear o1 e1_ HW0 x0
  have x1 : w1.cell? ⟨w.heap.size, 1, none⟩ = some (.slice sA sn sc) := (Y0.out.ext E1.out).cell 1
  go_wp2_with fail
  with_reducible refine (HR1.out _ (Ext.trans F0.out E1.out)).mono ?_
  rintro e wm ⟨u, rfl, ou, eu⟩
  obtain ⟨uA, uc, rfl, ua⟩ := ou.at_ len_e8
  have UA := hide ua
  have OB := hide (O1.out.ext eu)
  have EB := hide (Ext.trans E1.out eu)
  have HPL := hide HQ.out.2.1
  have S1 : Hid ((p0).length + p1.length ≤ maxLen) := hide (by have := L1.out; have := HPL.out; unfold maxLen; omega)
  have S2 : Hid (((p0).length + p1.length) * 1 ≤ 140737488355328) := hide (by have := L1.out; have := HPL.out; omega)
  have S3 := hide (ext_size EB.out)
  clear ua ou eu x1 O1 E1
  go_upto_region 3 with (at_builtin; refine wpList_append_at _ rfl (.tmp 8) (.tmp 11) 38 rfl w0.heap.size 5 i0_ _ 1 Try.underlying38 hi0 hz0 hz1 hz2 rfl (by omega) len_e8 one_e8 _ _ (by rfl) OB.out uA p1.length uc _ (by rfl) UA.out S1.out S2.out S3.out ?_; intro v2 w2 o2 g2 _ _; have O2_ := hide o2; have G2 := hide g2; clear o2 g2)
  have E2 := hide (OB.out.below EB.out G2.out (Nat.le_refl _))
  have O2 : Hid (Own w2 w0.heap.size 5 1 e8 v2 (p0 ++ p1)) := O2_
  have L2 : Hid ((p0 ++ p1).length ≤ 200000) := hide (by have := L1.out; have := HPL.out; rw [List.length_append]; omega)
  clear OB EB UA S1 S2 S3 G2 O2_ HPL L1
  have x2 : w2.cell? ⟨w.heap.size, 2, none⟩ = some (.slice hA hn hc) := (Y0.out.ext E2.out).cell 2
  go_wp2_with fail
  with_reducible refine (HR2.out _ (Ext.trans F0.out E2.out)).mono ?_
  rintro e wm ⟨u, rfl, ou, eu⟩
  obtain ⟨uA, uc, rfl, ua⟩ := ou.at_ len_e8
  have UA := hide ua
  have OB := hide (O2.out.ext eu)
  have EB := hide (Ext.trans E2.out eu)
  have HPL := hide HQ.out.2.2.1
  have S1 : Hid ((p0 ++ p1).length + p2.length ≤ maxLen) := hide (by have := L2.out; have := HPL.out; unfold maxLen; omega)
  have S2 : Hid (((p0 ++ p1).length + p2.length) * 1 ≤ 140737488355328) := hide (by have := L2.out; have := HPL.out; omega)
  have S3 := hide (ext_size EB.out)
  clear ua ou eu x2 O2 E2
  go_upto_region 4 with (at_builtin; refine wpList_append_at _ rfl (.tmp 13) (.tmp 16) 38 rfl w0.heap.size 5 i0_ _ 1 Try.underlying38 hi0 hz0 hz1 hz2 rfl (by omega) len_e8 one_e8 _ _ (by rfl) OB.out uA p2.length uc _ (by rfl) UA.out S1.out S2.out S3.out ?_; intro v3 w3 o3 g3 _ _; have O3_ := hide o3; have G3 := hide g3; clear o3 g3)
  have E3 := hide (OB.out.below EB.out G3.out (Nat.le_refl _))
  have O3 : Hid (Own w3 w0.heap.size 5 1 e8 v3 (p0 ++ p1 ++ p2)) := O3_
  have L3 : Hid ((p0 ++ p1 ++ p2).length ≤ 300000) := hide (by have := L2.out; have := HPL.out; rw [List.length_append]; omega)
  clear OB EB UA S1 S2 S3 G3 O3_ HPL L2
  have x3 : w3.cell? ⟨w.heap.size, 3, none⟩ = some (.slice zA zn zc) := (Y0.out.ext E3.out).cell 3
  go_wp2_with fail
  with_reducible refine (HR3.out _ (Ext.trans F0.out E3.out)).mono ?_
  rintro e wm ⟨u, rfl, ou, eu⟩
  obtain ⟨uA, uc, rfl, ua⟩ := ou.at_ len_e8
  have UA := hide ua
  have OB := hide (O3.out.ext eu)
  have EB := hide (Ext.trans E3.out eu)
  have HPL := hide HQ.out.2.2.2.1
  have S1 : Hid ((p0 ++ p1 ++ p2).length + p3.length ≤ maxLen) := hide (by have := L3.out; have := HPL.out; unfold maxLen; omega)
  have S2 : Hid (((p0 ++ p1 ++ p2).length + p3.length) * 1 ≤ 140737488355328) := hide (by have := L3.out; have := HPL.out; omega)
  have S3 := hide (ext_size EB.out)
  clear ua ou eu x3 O3 E3
  go_upto_region 5 with (at_builtin; refine wpList_append_at _ rfl (.tmp 18) (.tmp 21) 38 rfl w0.heap.size 5 i0_ _ 1 Try.underlying38 hi0 hz0 hz1 hz2 rfl (by omega) len_e8 one_e8 _ _ (by rfl) OB.out uA p3.length uc _ (by rfl) UA.out S1.out S2.out S3.out ?_; intro v4 w4 o4 g4 _ _; have O4_ := hide o4; have G4 := hide g4; clear o4 g4)
  have E4 := hide (OB.out.below EB.out G4.out (Nat.le_refl _))
  have O4 : Hid (Own w4 w0.heap.size 5 1 e8 v4 (p0 ++ p1 ++ p2 ++ p3)) := O4_
  have L4 : Hid ((p0 ++ p1 ++ p2 ++ p3).length ≤ 400000) := hide (by have := L3.out; have := HPL.out; rw [List.length_append]; omega)
  clear OB EB UA S1 S2 S3 G4 O4_ HPL L3
  generalize hl4 : p0 ++ p1 ++ p2 ++ p3 = l4 at *
  have HL4 := hide hl4
  clear hl4
  have x4 : w4.cell? ⟨w.heap.size, 4, none⟩ = some (.slice kA kn kc) := (Y0.out.ext E4.out).cell 4
  have S1 : Hid (l4.length + 1 ≤ maxLen) := hide (by have := L4.out; unfold maxLen; omega)
  have S2 : Hid ((l4.length + 1) * 1 ≤ 140737488355328) := hide (by have := L4.out; omega)
  have hsz4 := E4.out.size
  go_upto_if 25 with (fail)
  go_cut [3] (fun s3 wx => Hid (Own wx w0.heap.size 5 1 e8 s3 (l4 ++ p4)) ∧ Hid (Ext w0 wx))
  case first =>
    cases hk : nok with
    | true =>
      have hkA : kA = none := HNK.out.2 hk
      have dk : kA.isNone = true := by rw [hkA]; rfl
      have HKB : Hid (p4 = [0]) := hide (by rw [HP4.out, hk]; rfl)
      rw [dk]
      have S3 : Hid (w0.heap.size ≤ (w4.alloc (.cells #[.int .u8 0] 5)).heap.size) := hide (by rw [World.size_alloc]; omega)
      clear hkA hk
      go_wp2_with (at_builtin; refine wpList_append_at _ rfl (.tmp 26) (.tmp 27) 38 rfl w0.heap.size 5 i0_ _ 1 Try.underlying38 hi0 hz0 hz1 hz2 rfl (by omega) len_e8 one_e8 _ _ (by rfl) (O4.out.ext (Ext.alloc _ _)) (some ⟨w4.heap.size, 0, none⟩) 1 1 [0] (by rfl) (At.new1 w4 0 _ rfl _) S1.out S2.out S3.out ?_; intro v7 w7 o7 g7 _ _; have O7_ := hide o7; have G7 := hide g7; clear o7 g7)
      have E7 := hide (Own.below (O4.out.ext (Ext.alloc _ _)) (Ext.trans E4.out (Ext.alloc _ _)) G7.out (Nat.le_refl _))
      go_meet
      exact ⟨hide (by rw [HKB.out]; exact O7_.out), E7⟩
    | false =>
      have hkA : ¬ kA = none := fun e => by have := HNK.out.1 e; rw [hk] at this; cases this
      have dk : kA.isNone = false := by cases kA with
        | none => exact absurd rfl hkA
        | some a => rfl
      have HKB : Hid (p4 = [1] ++ liB K.length K) := hide (by rw [HP4.out, hk]; unfold keyB; rw [if_neg (by simp)])
      rw [dk]
      have S3 : Hid (w0.heap.size ≤ (w4.alloc (.cells #[.int .u8 1] 5)).heap.size) := hide (by rw [World.size_alloc]; omega)
      clear hkA hk
      go_upto_region 8 with (at_builtin; refine wpList_append_at _ rfl (.tmp 29) (.tmp 30) 38 rfl w0.heap.size 5 i0_ _ 1 Try.underlying38 hi0 hz0 hz1 hz2 rfl (by omega) len_e8 one_e8 _ _ (by rfl) (O4.out.ext (Ext.alloc _ _)) (some ⟨w4.heap.size, 0, none⟩) 1 1 [1] (by rfl) (At.new1 w4 1 _ rfl _) S1.out S2.out S3.out ?_; intro v7 w7 o7 g7 _ _; have O7_ := hide o7; have G7 := hide g7; clear o7 g7)
      have E7 := hide (Own.below (O4.out.ext (Ext.alloc _ _)) (Ext.trans E4.out (Ext.alloc _ _)) G7.out (Nat.le_refl _))
      have y4 : w7.cell? ⟨w.heap.size, 4, none⟩ = some (.slice kA kn kc) := (Y0.out.ext E7.out).cell 4
      go_wp2_with fail
      with_reducible refine (HR4.out _ (Ext.trans F0.out E7.out)).mono ?_
      rintro e wm ⟨u, rfl, ou, eu⟩
      obtain ⟨uA, uc, rfl, ua⟩ := ou.at_ len_e8
      have UA := hide ua
      have OB := hide (O7_.out.ext eu)
      have EB := hide (Ext.trans E7.out eu)
      have hq4 := HQ.out.2.2.2.2.1
      rw [HKB.out, List.length_append] at hq4
      have T1 : Hid ((l4 ++ [1]).length + (liB K.length K).length ≤ maxLen) := hide (by have := L4.out; rw [List.length_append]; simp only [List.length_cons, List.length_nil] at hq4 ⊢; unfold maxLen; omega)
      have T2 : Hid (((l4 ++ [1]).length + (liB K.length K).length) * 1 ≤ 140737488355328) := hide (by have := L4.out; rw [List.length_append]; simp only [List.length_cons, List.length_nil] at hq4 ⊢; omega)
      have T3 := hide (ext_size EB.out)
      clear ua ou eu y4 hq4 E7 O7_
      go_wp2_with (at_builtin; refine wpList_append_at _ rfl (.tmp 32) (.tmp 35) 38 rfl w0.heap.size 5 i0_ _ 1 Try.underlying38 hi0 hz0 hz1 hz2 rfl (by omega) len_e8 one_e8 _ _ (by rfl) OB.out uA (liB K.length K).length uc _ (by rfl) UA.out T1.out T2.out T3.out ?_; intro v8 w8 o8 g8 _ _; have O8_ := hide o8; have G8 := hide g8; clear o8 g8)
      have E8 := hide (OB.out.below EB.out G8.out (Nat.le_refl _))
      go_meet
      exact ⟨hide (by rw [HKB.out, ← List.append_assoc]; exact O8_.out), E8⟩
  case rest =>
  obtain ⟨O5, E5⟩ := hcut
  obtain ⟨w5, hw5⟩ : ∃ w5, w5 = wc := ⟨_, rfl⟩
  subst hw5
  have L5 : Hid ((l4 ++ p4).length ≤ 500000) := hide (by have := L4.out; have h9 := HQ.out.2.2.2.2.1; rw [List.length_append]; omega)
  clear O4 E4 x4 S1 S2 e1 hsz4 L4
  generalize hl5 : l4 ++ p4 = l5 at *
  have HLE5 := hide hl5
  clear hl5
  have x5 : w5.cell? ⟨w.heap.size, 5, none⟩ = some (.slice cA cn cc) := (Y0.out.ext E5.out).cell 5
  go_wp2_with fail
  with_reducible refine (HR5.out _).mono ?_
  rintro e wm ⟨gm, rfl, ou, eu⟩
  have UA := hide (ou.atS len_e8)
  have OB := hide (O5.out.ext eu)
  have EB := hide (Ext.trans E5.out eu)
  have S1 : Hid (l5.length + 4 ≤ maxLen) := hide (by have := L5.out; unfold maxLen; omega)
  have S2 : Hid ((l5.length + 4) * 1 ≤ 140737488355328) := hide (by have := L5.out; omega)
  have S3 := hide (ext_size EB.out)
  clear ou eu x5 O5 E5
  go_upto_region 10 with (at_builtin; refine wpList_append_at _ rfl (.tmp 37) (.tmp 41) 38 rfl w0.heap.size 5 i0_ _ 1 Try.underlying38 hi0 hz0 hz1 hz2 rfl (by omega) len_e8 one_e8 _ _ (by rfl) OB.out (some ⟨gm, 0, none⟩) 4 4 _ (by rfl) UA.out S1.out S2.out S3.out ?_; intro v6 w6 o6 g6 _ _; have O6_ := hide o6; have G6 := hide g6; clear o6 g6)
  have E6 := hide (OB.out.below EB.out G6.out (Nat.le_refl _))
  clear OB EB UA S1 S2 S3 G6
  go_wp2_with fail
  go_loopw [3, 4] (fun r3 ri wr => ∃ k : Nat, k ≤ cn ∧ ri = .int .i64 k ∧ Hid (Own wr w0.heap.size 5 1 e8 r3 (l5 ++ liB C.length (rnN (C.take k)))) ∧ Hid (Ext w0 wr)) (fun _ ri _ => cn - (intOf ri).toNat)
  case atStart => exact ⟨0, by omega, rfl, hide (by simpa [liB, rnN, lsB] using O6_.out), E6⟩
  case round =>
    clear O6_ E6
    obtain ⟨k, hk, rfl, HO, HX⟩ := hrel
    have x5 : wr.cell? ⟨w.heap.size, 5, none⟩ = some (.slice cA cn cc) := (Y0.out.ext HX.out).cell 5
    by_cases hlt : k < cn
    · obtain ⟨b, off, rfl, _⟩ := HH.out.chunks.addr (by omega)
      obtain ⟨a0, a1⟩ := (HH.out.chunks.ext (Ext.trans F0.out HX.out)).pair hlt
      simp only at a0 a1
      have HPR := hide (fun (W : World) (hW : Ext w W) => (HH.out.chunks.ext hW).pair hlt)
      simp only at HPR
      have HSU : Hid (liB C.length (rnN (C.take (k + 1))) = liB C.length (rnN (C.take k)) ++ beN 8 (u64n (C.getD k (0, 0)).1) ++ beN 8 (u64n (C.getD k (0, 0)).2)) := hide (by rw [rnN_take (by have := HLC.out; omega)]; unfold liB; rw [lsB_two, u64n_N, u64n_N]; simp only [List.append_assoc])
      generalize (C.getD k (0, 0)).1 = x at *
      generalize (C.getD k (0, 0)).2 = y at *
      have hq5 := HQ.out.2.2.2.2.2.1 k
      generalize hac : liB C.length (rnN (C.take k)) = acc at *
      clear hac
      have i1 : (k : Int) < (cn : Int) := by omega
      have i0 : (0 : Int) ≤ (k : Int) := by omega
      have i8 : IntKind.i64.wrap ((k : Int) + 1) = (k : Int) + 1 := by rw [IntKind.wrap_i64]; omega
      have S1 : Hid ((l5 ++ acc).length + 8 ≤ maxLen) := hide (by have := L5.out; rw [List.length_append]; unfold maxLen; omega)
      have S2 : Hid (((l5 ++ acc).length + 8) * 1 ≤ 140737488355328) := hide (by have := L5.out; rw [List.length_append]; omega)
      have T1 : Hid ((l5 ++ acc ++ beN 8 (u64n x)).length + 8 ≤ maxLen) := hide (by have := L5.out; rw [List.length_append, List.length_append, beN_len]; unfold maxLen; omega)
      have T2 : Hid (((l5 ++ acc ++ beN 8 (u64n x)).length + 8) * 1 ≤ 140737488355328) := hide (by have := L5.out; rw [List.length_append, List.length_append, beN_len]; omega)
      have HW1 := hide (fun (W : World) => wrtO (w := W) (x := x) 8 8 rfl (by omega))
      have HW2 := hide (fun (W : World) => wrtO (w := W) (x := y) 8 8 rfl (by omega))
      clear hq5
      go_wp2_with fail
      with_reducible refine (HW1.out _).mono ?_
      rintro e w4 ⟨g4, rfl, o4, e4⟩
      have A4 := hide (o4.atS len_e8)
      have OB := hide (HO.out.ext e4)
      have E4 := hide (Ext.trans HX.out e4)
      have S3 := hide (ext_size E4.out)
      clear o4 e4 a0 a1 x5 HO HX
      go_upto_region 14 with (at_builtin; refine wpList_append_at _ rfl (.tmp 50) (.tmp 57) 38 rfl w0.heap.size 5 i0_ _ 1 Try.underlying38 hi0 hz0 hz1 hz2 rfl (by omega) len_e8 one_e8 _ _ (by rfl) OB.out (some ⟨g4, 0, none⟩) 8 8 _ (by rfl) A4.out S1.out S2.out S3.out ?_; intro v6 w6 o6 g6 _ _; have O6_ := hide o6; have G6 := hide g6; clear o6 g6)
      have E6 := hide (OB.out.below E4.out G6.out (Nat.le_refl _))
      have y5 : w6.cell? ⟨w.heap.size, 5, none⟩ = some (.slice (some ⟨b, off, none⟩) cn cc) := (Y0.out.ext E6.out).cell 5
      obtain ⟨c0, c1⟩ := HPR.out _ (Ext.trans F0.out E6.out)
      clear OB E4 G6 A4 HPR
      go_wp2_with fail
      with_reducible refine (HW2.out _).mono ?_
      rintro e w7 ⟨g7, rfl, o7, e7⟩
      have A7 := hide (o7.atS len_e8)
      have OC := hide (O6_.out.ext e7)
      have E7 := hide (Ext.trans E6.out e7)
      have T3 := hide (ext_size E7.out)
      clear o7 e7 c0 c1 y5 O6_ E6
      go_wp2_with (at_builtin; refine wpList_append_at _ rfl (.tmp 59) (.tmp 66) 38 rfl w0.heap.size 5 i0_ _ 1 Try.underlying38 hi0 hz0 hz1 hz2 rfl (by omega) len_e8 one_e8 _ _ (by rfl) OC.out (some ⟨g7, 0, none⟩) 8 8 _ (by rfl) A7.out T1.out T2.out T3.out ?_; intro v8 w8 o8 g8 _ _; have O8_ := hide o8; have G8 := hide g8; clear o8 g8)
      exact ⟨⟨k + 1, by omega, by go_num, hide (by rw [HSU.out, ← List.append_assoc, ← List.append_assoc]; exact O8_.out), hide (OC.out.below E7.out G8.out (Nat.le_refl _))⟩, by simp [intOf]; omega⟩
    · obtain rfl : k = cn := by omega
      have HTK : Hid (C.take k = C) := hide (List.take_of_length_le (by have := HLC.out; omega))
      have O9 : Hid (Own wr w0.heap.size 5 1 e8 u3 (l5 ++ liB C.length (rnN C))) := hide (by have := HO.out; rw [HTK.out] at this; exact this)
      have L9 : Hid ((l5 ++ liB C.length (rnN C)).length ≤ 600000) := hide (by have := L5.out; have h9 := HQ.out.2.2.2.2.2.1 k; rw [HTK.out] at h9; rw [List.length_append]; omega)
      generalize hl9 : l5 ++ liB C.length (rnN C) = l9 at *
      have HL9 := hide hl9
      clear hl9 HO
      go_upto_region 15 with (fail)
      have x6 : wr.cell? ⟨w.heap.size, 6, none⟩ = some (.slice pA pn pc) := (Y0.out.ext HX.out).cell 6
      go_wp2_with fail
      with_reducible refine (HR6.out _ (Ext.trans F0.out HX.out)).mono ?_
      rintro e wm ⟨u, rfl, ou, eu⟩
      obtain ⟨uA, uc, rfl, ua⟩ := ou.at_ len_e8
      have UA := hide ua
      have OB := hide (O9.out.ext eu)
      have EB := hide (Ext.trans HX.out eu)
      have S1 : Hid (l9.length + p6.length ≤ maxLen) := hide (by have := L9.out; have h9 := HQ.out.2.2.2.2.2.2; unfold maxLen; omega)
      have S2 : Hid ((l9.length + p6.length) * 1 ≤ 140737488355328) := hide (by have := L9.out; have h9 := HQ.out.2.2.2.2.2.2; omega)
      have S3 := hide (ext_size EB.out)
      clear ua ou eu x6
      go_wp2_with (at_builtin; refine wpList_append_at _ rfl (.tmp 68) (.tmp 71) 38 rfl w0.heap.size 5 i0_ _ 1 Try.underlying38 hi0 hz0 hz1 hz2 rfl (by omega) len_e8 one_e8 _ _ (by rfl) OB.out uA p6.length uc _ (by rfl) UA.out S1.out S2.out S3.out ?_; intro v10 w10 o10 g10 _ _; have O10_ := hide o10; have G10 := hide g10; clear o10 g10)
      have E10 := hide (OB.out.below EB.out G10.out (Nat.le_refl _))
      go_wp2_with fail
      go_ret
      exact ⟨_, rfl, by rw [HTB.out]; exact O10_.out.more F0.out.size, Ext.trans F0.out E10.out⟩
set_option linter.unusedVariables false in
set_option maxRecDepth 100000 in
set_option maxHeartbeats 4000000 in
theorem refTabBytes_any {sA : Option Addr} {sn sc : Nat} {hA : Option Addr} {hn hc : Nat} {zA : Option Addr} {zn zc : Nat} {kA : Option Addr} {kn kc : Nat} {cA : Option Addr} {cn cc : Nat} {pA : Option Addr} {pn pc : Nat} {t : Tab} {w : World} (h : TabAt w sA sn sc hA hn hc zA zn zc kA kn kc cA cn cc pA pn pc t) (hz : TabSz sn hn zn kn cn pn) :
    Calls Try.prog 15 #[.agg #[.int .i64 t.start, .slice sA sn sc, .slice hA hn hc, .slice zA zn zc, .slice kA kn kc, .slice cA cn cc, .slice pA pn pc]] w (Gives 1 e8 w (tbL t) (tabF t)) := by
  have E0 := hide (Ext.alloc w (.cells #[.int .i64 t.start, .slice sA sn sc, .slice hA hn hc, .slice zA zn zc, .slice kA kn kc, .slice cA cn cc, .slice pA pn pc] 27))
  have X0 := hide (Blk.new w 27 #[.int .i64 t.start, .slice sA sn sc, .slice hA hn hc, .slice zA zn zc, .slice kA kn kc, .slice cA cn cc, .slice pA pn pc])
  have HC := hide (refCheckTable_any (h.ext E0.out) rfl hz)
  have HIN := hide (fun (hf : tabF t = 0) (W : World) (hW : Ext w W) => refTableBytes_in (h.ext hW) (by
    have hr := tab_few (tab_right hf)
    have l1 := h.steps.len
    have l2 := h.shifts.len
    have l3 := h.sizes.len
    have l4 := h.keys.len
    have l5 := h.chunks.len
    have l6 := h.places.len
    exact ⟨by omega, by omega, by omega, by omega, by omega, by omega⟩))
  have HTL : Hid (tbL t = if tabF t = 0 then tabBy t else []) := hide rfl
  clear h
  by_cases hf : tabF t = 0
  · have HI := hide (HIN.out hf)
    have HV : Hid (tbL t = tabBy t) := hide (by rw [HTL.out, if_pos hf])
    have HF0 := hide hf
    rw [hf] at HC
    clear hf HIN HTL
    go_enter Try.func15, Try.ntmps15
    go_wp2_with fail
    with_reducible refine HC.out.mono ?_
    rintro e w1 ⟨rfl, e1⟩
    have E1 := hide (Ext.trans E0.out e1)
    have X1 := hide (X0.out.ext e1)
    clear e1
    have x0 : w1.cell? ⟨w.heap.size, 0, none⟩ = some (.int .i64 t.start) := X1.out.cell 0
    have x1 : w1.cell? ⟨w.heap.size, 1, none⟩ = some (.slice sA sn sc) := X1.out.cell 1
    have x2 : w1.cell? ⟨w.heap.size, 2, none⟩ = some (.slice hA hn hc) := X1.out.cell 2
    have x3 : w1.cell? ⟨w.heap.size, 3, none⟩ = some (.slice zA zn zc) := X1.out.cell 3
    have x4 : w1.cell? ⟨w.heap.size, 4, none⟩ = some (.slice kA kn kc) := X1.out.cell 4
    have x5 : w1.cell? ⟨w.heap.size, 5, none⟩ = some (.slice cA cn cc) := X1.out.cell 5
    have x6 : w1.cell? ⟨w.heap.size, 6, none⟩ = some (.slice pA pn pc) := X1.out.cell 6
    go_wp2_with fail
    with_reducible refine (HI.out _ E1.out).mono ?_
    rintro e w2 ⟨u, rfl, o2, e2⟩
    obtain ⟨T, tc, rfl, ua⟩ := o2.at_ len_e8
    have E2 := hide (Ext.trans E1.out e2)
    have A2 := hide ua
    clear o2 e2 ua
    go_wp2_with fail
    go_ret2
    rw [HF0.out, HV.out]
    exact ⟨_, _, _, rfl, A2.out, E2.out⟩
  · have HV : Hid (tbL t = []) := hide (by rw [HTL.out, if_neg hf])
    have HF0 := hide hf
    have d0 : (tabF t != 0) = true := by simp [hf]
    clear hf HIN HTL
    go_enter Try.func15, Try.ntmps15
    go_wp2_with fail
    with_reducible refine HC.out.mono ?_
    rintro e w1 ⟨rfl, e1⟩
    have E1 := hide (Ext.trans E0.out e1)
    clear e1
    go_wp2_with fail
    go_ret2
    rw [HV.out]
    exact gives_nil _ E1.out
end Go.Proofs.Ytkdmfkpkelnheaa
