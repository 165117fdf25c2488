/- Several texts in one: Walk: tableBytes (program). Conditions as stated; Tables in plain words: how many samples a chunk has, and that both ways of counting them agree. Plain; A right table has few elements. Plain. -/
import Derived.Test.YtkbmgakehlmcnaaMtq20
import Derived.Deep.RegionHeld3
import Derived.Test.YtkbmgakehlmcnaaMtq19
namespace Go.Proofs.Ytkbmgakehlmcnaa
open Go.RowKit
def keyB (nok : Bool) (K : List Int) : List UInt8 := if nok = true then [0] else [1] ++ liB K.length K
def tabBy (t : Tab) : List UInt8 := beN 8 (u64N t.start) ++ liB t.steps.length (rnN t.steps) ++ liB t.shifts.length (rnN t.shifts) ++ liB t.sizes.length t.sizes ++ keyB t.nok t.keys ++ liB t.chunks.length (rnN t.chunks) ++ liB t.places.length t.places
theorem liB_len (m : Nat) (l : List Int) : (liB m l).length = 4 + 8 * l.length := by unfold liB; rw [List.length_append, beN_len, lsB_len]
theorem keyB_len (nok : Bool) (K : List Int) : (keyB nok K).length ≤ 5 + 8 * K.length := by
  unfold keyB
  cases nok with
  | true => rw [if_pos rfl]; simp; omega
  | false => rw [if_neg (by simp), List.length_append, liB_len]; simp; omega
structure TabFw (sn hn zn kn cn pn : Nat) : Prop where
  s : sn ≤ 5000
  h : hn ≤ 5000
  z : zn ≤ 5000
  k : kn ≤ 5000
  c : cn ≤ 5000
  p : pn ≤ 5000
set_option linter.unusedVariables false in
set_option linter.unusedSimpArgs false in
set_option maxRecDepth 100000 in
set_option maxHeartbeats 16000000 in
theorem tableBytes_in {st : Int} {sA : Option Addr} {sn sc : Nat} {hA : Option Addr} {hn hc : Nat} {zA : Option Addr} {zn zc : Nat} {kA : Option Addr} {kn kc : Nat} {cA : Option Addr} {cn cc : Nat} {pA : Option Addr} {pn pc : Nat} {t : Tab} {w : World} (h : TabAt w sA sn sc hA hn hc zA zn zc kA kn kc cA cn cc pA pn pc t) (hst : t.start = st) (hf : TabFw sn hn zn kn cn pn) :
    Calls Try.prog 48 #[.agg #[.int .i64 st, .slice sA sn sc, .slice hA hn hc, .slice zA zn zc, .slice kA kn kc, .slice cA cn cc, .slice pA pn pc]] w fun e w' => ∃ T k tc, e = .returned (.slice T k tc) ∧ Own w' (w.heap.size + 1) 5 1 e8 (.slice T k tc) (tabBy t) ∧ Ext w w' := by
  subst hst
  obtain ⟨st, S, SH, Z, K, nok, C, P⟩ := t
  simp only at h ⊢
  obtain ⟨f1, f2, f3, f4, f5, f6⟩ := hf
  have LS : S.length = sn := h.steps.len
  have LH : SH.length = hn := h.shifts.len
  have LZ : Z.length = zn := h.sizes.len
  have LK : K.length = kn := h.keys.len
  have LC : C.length = cn := h.chunks.len
  have LP : P.length = pn := h.places.len
  have HTB : Hid (tabBy ⟨st, S, SH, Z, K, nok, C, P⟩ = beN 8 (u64N st) ++ liB sn (rnN S) ++ liB hn (rnN SH) ++ liB zn Z ++ keyB nok K ++ liB cn (rnN C) ++ liB pn P) := hide (by unfold tabBy; simp only [LS, LH, LZ, LC, LP])
  have q0 : (beN 8 (u64N st)).length = 8 := beN_len _ _
  have q1 : (liB sn (rnN S)).length = 4 + 16 * sn := by rw [liB_len, rnN_len, LS]; omega
  have q2 : (liB hn (rnN SH)).length = 4 + 16 * hn := by rw [liB_len, rnN_len, LH]; omega
  have q3 : (liB zn Z).length = 4 + 8 * zn := by rw [liB_len, LZ]
  have q4 : (keyB nok K).length ≤ 5 + 8 * kn := by rw [← LK]; exact keyB_len nok K
  have q5 : (liB cn (rnN C)).length = 4 + 16 * cn := by rw [liB_len, rnN_len, LC]; omega
  have HQ := hide (And.intro q0 (And.intro q1 (And.intro q2 (And.intro q3 (And.intro q4 q5)))))
  have HLK := hide LK
  have HLC := hide LC
  have HNK := hide h.nok
  have HH := hide h
  have E0 := hide (Ext.alloc w (.cells #[.int .i64 st, .slice sA sn sc, .slice hA hn hc, .slice zA zn zc, .slice kA kn kc, .slice cA cn cc, .slice pA pn pc] 82))
  have X0 := hide (Blk.new w 82 #[.int .i64 st, .slice sA sn sc, .slice hA hn hc, .slice zA zn zc, .slice kA kn kc, .slice cA cn cc, .slice pA pn pc])
  have e1 := fun (W : World) => Lib.run_eql_slice_nil (P := Try.prog) W 79 3 kA kn kc 0 0 Try.underlying79
  have HLT : Hid (∀ (α : Type) (sz : Nat) (enc : α → List Value) (A : Option Addr) (n c : Nat) (l : List α), At w sz enc A n c l → (∀ x, (enc x).length = sz) → 0 < sz → 0 < n → ∀ a, A = some a → a.block < w.heap.size) := hide (fun α sz enc A n c l ha h1 h2 h3 => ha.blk_lt h1 h2 h3)
  clear h q0 q1 q2 q3 q4 q5 LS LH LZ LK LC LP
  go_enter Try.func48, Try.ntmps48
  go_upto_region 1 with (fail)
  refine gen_wpC fun w0 h0 => ?_
  have hs0 : w0.heap.size = w.heap.size + 1 := by rw [h0]; exact World.size_alloc _ _
  have F0 : Hid (Ext w w0) := hide (by rw [h0]; exact E0.out)
  have Y0 : Hid (Blk w0 w.heap.size 82 #[.int .i64 st, .slice sA sn sc, .slice hA hn hc, .slice zA zn zc, .slice kA kn kc, .slice cA cn cc, .slice pA pn pc]) := hide (by rw [h0]; exact X0.out)
  clear h0 E0 X0
  have x0 : w0.cell? ⟨w.heap.size, 0, none⟩ = some (.int .i64 st) := Y0.out.cell 0
  have u0 : IntKind.u64.wrap st = ((u64N st : Nat) : Int) := (u64N_cast st).symm
  have HA0 := hide (appendNumberG (w := w0) (n := u64N st) (many := 8) (z := 8) (base := w0.heap.size) (Own.nil w0 w0.heap.size 5 1 e8) (Nat.le_refl _) rfl (by omega) (u64N_lt _) (by simp))
  have HAL := hide (fun (W : World) (v : Value) (l : List UInt8) (many n c : Nat) (A : Option Addr) (ns : List Int) (ho : Own W w0.heap.size 5 1 e8 v l) (hE : Ext w0 W) (ha : At W 1 e64 A n c ns) (hlo : 0 < n → ∀ a, A = some a → some a.block ≠ v.ownBlock) (h1 : many ≤ 1000000) (h2 : n ≤ 1000000) (h3 : l.length ≤ 100000000) => (appendList_any ho hE.size ha hlo h1 h2 h3).mono (R' := fun e w' => ∃ v', e = .returned v' ∧ Own w' w0.heap.size 5 1 e8 v' (l ++ liB many ns) ∧ Ext w0 w') (fun e w' ⟨v', he, ho', hg⟩ => ⟨v', he, ho', Own.below ho hE hg.grown (Nat.le_refl _)⟩))
  go_wp2_with fail
  with_reducible refine HA0.out.mono ?_
  rintro e w1 ⟨v1, rfl, o1, g1⟩
  rw [List.nil_append] at o1
  have O1 := hide o1
  have E1 : Hid (Ext w0 w1) := hide (Own.below (Own.nil w0 w0.heap.size 5 1 e8) (Ext.refl _) g1.grown (Nat.le_refl _))
  clear o1 g1 HA0 x0 u0
  have HRN1 := hide (fun (W : World) (hW : Ext w0 W) => runNumbers_any (HH.out.steps.ext (Ext.trans F0.out hW)) (by omega))
  have x1 : w1.cell? ⟨w.heap.size, 1, none⟩ = some (.slice sA sn sc) := (Y0.out.ext E1.out).cell 1
  have z1 : w0.cell? ⟨w.heap.size, 1, none⟩ = some (.slice sA sn sc) := Y0.out.cell 1
  have HLL : Hid ((beN 8 (u64N st)).length ≤ 100000000) := hide (by have := HQ.out; first | (simp only [List.length_append]; omega) | omega)
  have HRL : Hid (∀ g, v1.ownBlock = some g → g < w1.heap.size) := hide (fun g hg => (O1.out.lt g hg).2)
  go_upto_region 2 with (fail)
  go_region_held3 (fun w' => w'.cell? ⟨w.heap.size, 1, none⟩ = some (.slice sA sn sc)) (first | go_keep | exact EA.cell x1 | exact EB.cell z1) (first
    | ((go_at_call 71; with_reducible refine (HRN1.out _ (Ext.trans E1.out (Ext.drew _))).mono ?_); rintro e wa ⟨R, rk, rc, rfl, ra, re, rl⟩; have EA : Ext w1 wa := Ext.trans (Ext.drew _) re; have RA := hide ra; have RL := hide rl; have RK : Hid (rk ≤ 1000000) := hide (by have h9 := ra.len; rw [rnN_len, HH.out.steps.len] at h9; omega); clear ra re rl)
    | ((go_at_call 70; with_reducible refine (HAL.out _ _ _ sn _ _ _ _ (O1.out.ext EA) (Ext.trans E1.out EA) RA.out (fun _ a ha e => by have h8 := HRL.out _ e.symm; have h9 := RL.out a ha; exact absurd (Nat.lt_of_lt_of_le h8 h9) (Nat.lt_irrefl _)) (by omega) RK.out HLL.out).mono ?_); rintro e w2 ⟨v2, rfl, o2, EB⟩))
  all_goals
    have O2 := hide o2
    have E2 : Hid (Ext w0 w2) := hide EB
    clear o2 EB EA RA RL RK x1 z1 HRN1 HLL HRL O1 E1
  have HRN2 := hide (fun (W : World) (hW : Ext w0 W) => runNumbers_any (HH.out.shifts.ext (Ext.trans F0.out hW)) (by omega))
  have x2 : w2.cell? ⟨w.heap.size, 2, none⟩ = some (.slice hA hn hc) := (Y0.out.ext E2.out).cell 2
  have z2 : w0.cell? ⟨w.heap.size, 2, none⟩ = some (.slice hA hn hc) := Y0.out.cell 2
  have HLL : Hid ((beN 8 (u64N st) ++ liB sn (rnN S)).length ≤ 100000000) := hide (by have := HQ.out; first | (simp only [List.length_append]; omega) | omega)
  have HRL : Hid (∀ g, v2.ownBlock = some g → g < w2.heap.size) := hide (fun g hg => (O2.out.lt g hg).2)
  go_upto_region 3 with (fail)
  go_region_held3 (fun w' => w'.cell? ⟨w.heap.size, 2, none⟩ = some (.slice hA hn hc)) (first | go_keep | exact EA.cell x2 | exact EB.cell z2) (first
    | ((go_at_call 71; with_reducible refine (HRN2.out _ (Ext.trans E2.out (Ext.drew _))).mono ?_); rintro e wa ⟨R, rk, rc, rfl, ra, re, rl⟩; have EA : Ext w2 wa := Ext.trans (Ext.drew _) re; have RA := hide ra; have RL := hide rl; have RK : Hid (rk ≤ 1000000) := hide (by have h9 := ra.len; rw [rnN_len, HH.out.shifts.len] at h9; omega); clear ra re rl)
    | ((go_at_call 70; with_reducible refine (HAL.out _ _ _ hn _ _ _ _ (O2.out.ext EA) (Ext.trans E2.out EA) RA.out (fun _ a ha e => by have h8 := HRL.out _ e.symm; have h9 := RL.out a ha; exact absurd (Nat.lt_of_lt_of_le h8 h9) (Nat.lt_irrefl _)) (by omega) RK.out HLL.out).mono ?_); rintro e w3 ⟨v3, rfl, o3, EB⟩))
  all_goals
    have O3 := hide o3
    have E3 : Hid (Ext w0 w3) := hide EB
    clear o3 EB EA RA RL RK x2 z2 HRN2 HLL HRL O2 E2
  have x3 : w3.cell? ⟨w.heap.size, 3, none⟩ = some (.slice zA zn zc) := (Y0.out.ext E3.out).cell 3
  have HLL : Hid ((beN 8 (u64N st) ++ liB sn (rnN S) ++ liB hn (rnN SH)).length ≤ 100000000) := hide (by have := HQ.out; first | (simp only [List.length_append]; omega) | omega)
  have HA4 := hide (HAL.out _ _ _ zn _ _ _ _ O3.out E3.out (HH.out.sizes.ext (Ext.trans F0.out E3.out)) (fun hz0 a ha e => by have h8 := (O3.out.lt _ e.symm).1; have h9 := HLT.out _ _ _ _ _ _ _ HH.out.sizes len_e64 (by omega) hz0 a ha; omega) (by omega) (by omega) HLL.out)
  go_wp2_with fail
  with_reducible refine HA4.out.mono ?_
  rintro e w4 ⟨v4, rfl, o4, E4_⟩
  have O4 := hide o4
  have E4 : Hid (Ext w0 w4) := hide E4_
  clear o4 E4_ HA4 x3 HLL O3 E3
  have x4 : w4.cell? ⟨w.heap.size, 4, none⟩ = some (.slice kA kn kc) := (Y0.out.ext E4.out).cell 4
  have y4 : w0.cell? ⟨w.heap.size, 4, none⟩ = some (.slice kA kn kc) := Y0.out.cell 4
  have HLL : Hid ((beN 8 (u64N st) ++ liB sn (rnN S) ++ liB hn (rnN SH) ++ liB zn Z).length ≤ 1000000) := hide (by have := HQ.out; first | (simp only [List.length_append]; omega) | omega)
  obtain ⟨i0_, hi0, hz0, hz1, hz2⟩ := info_parts Try.info5
  obtain ⟨j0_, hj0, hy0, hy1, hy2⟩ := info_parts Try.info3
  have S1 : Hid ((beN 8 (u64N st) ++ liB sn (rnN S) ++ liB hn (rnN SH) ++ liB zn Z).length + 1 ≤ maxLen) := hide (by have := HLL.out; unfold maxLen; omega)
  have S2 : Hid (((beN 8 (u64N st) ++ liB sn (rnN S) ++ liB hn (rnN SH) ++ liB zn Z).length + 1) * 1 ≤ 140737488355328) := hide (by have := HLL.out; omega)
  have hsz4 := E4.out.size
  generalize hl4 : (beN 8 (u64N st) ++ liB sn (rnN S) ++ liB hn (rnN SH) ++ liB zn Z) = l4 at *
  have HL4 := hide hl4
  clear hl4
  go_upto_if 36 with (fail)
  go_cut [3] (fun s3 wx => Hid (Own wx w0.heap.size 5 1 e8 s3 (l4 ++ keyB nok K)) ∧ Hid (Ext w0 wx))
  case first =>
    cases hk : nok with
    | true =>
      have hkA : kA = none := HNK.out.2 hk
      have dk : kA.isNone = true := by rw [hkA]; rfl
      have HKB : Hid (keyB nok K = [0]) := hide (by rw [hk]; rfl)
      rw [dk]
      have S3 : Hid (w0.heap.size ≤ (w4.alloc (.cells #[.int .u8 0] 5)).heap.size) := hide (by rw [World.size_alloc]; omega)
      clear hkA hk
      go_wp2_with (at_builtin; refine wpList_append_at _ rfl (.tmp 37) (.tmp 38) 28 rfl w0.heap.size 5 i0_ _ 1 Try.underlying28 hi0 hz0 hz1 hz2 rfl (by omega) len_e8 one_e8 _ _ (by rfl) (O4.out.ext (Ext.alloc _ _)) (some ⟨w4.heap.size, 0, none⟩) 1 1 [0] (by rfl) (At.new1 w4 0 _ rfl _) S1.out S2.out S3.out ?_; intro v7 w7 o7 g7 _ _; have O7 := hide o7; have E7 : Hid (Ext w0 w7) := hide (Own.below (O4.out.ext (Ext.alloc _ _)) (Ext.trans E4.out (Ext.alloc _ _)) g7 (Nat.le_refl _)); clear o7 g7)
      go_meet
      exact ⟨hide (by rw [HKB.out]; exact O7.out), E7⟩
    | false =>
      have hkA : ¬ kA = none := fun e => by have := HNK.out.1 e; rw [hk] at this; cases this
      have dk : kA.isNone = false := by cases kA with
        | none => exact absurd rfl hkA
        | some a => rfl
      have HKB : Hid (keyB nok K = [1] ++ liB kn K) := hide (by rw [hk]; unfold keyB; rw [if_neg (by simp), HLK.out])
      rw [dk]
      have S3 : Hid (w0.heap.size ≤ (w4.alloc (.cells #[.int .u8 1] 5)).heap.size) := hide (by rw [World.size_alloc]; omega)
      clear hkA hk
      go_wp2_with fail
      go_region_held3 (fun w' => w'.cell? ⟨w.heap.size, 4, none⟩ = some (.slice kA kn kc)) (first | go_keep | exact (Ext.alloc _ _).cell x4 | exact E7.cell y4 | exact EB.cell y4 | exact E4.out.cell y4 | exact (Ext.trans E4.out (by first | exact Ext.trans (Ext.drew _) (Ext.alloc _ _) | exact Ext.trans (Ext.alloc _ _) (Ext.drew _))).cell y4) (first
        | ((refine step_append_at rfl (.tmp 40) (.tmp 41) 28 rfl w0.heap.size 5 i0_ _ 1 Try.underlying28 hi0 hz0 hz1 hz2 rfl (by omega) len_e8 one_e8 _ _ (by simp [Act.eval]) (O4.out.ext (Ext.trans (Ext.drew _) (Ext.alloc _ _))) (some ⟨w4.drew.heap.size, 0, none⟩) 1 1 [1] (by simp [Act.eval]) (At.new1 w4.drew 1 _ rfl _) S1.out S2.out S3.out ?_); intro v7 w7 o7 g7 _ _; have O7 := hide o7; have E7 : Ext w0 w7 := Own.below (O4.out.ext (Ext.trans (Ext.drew _) (Ext.alloc _ _))) (Ext.trans E4.out (Ext.trans (Ext.drew _) (Ext.alloc _ _))) g7 (Nat.le_refl _); clear o7 g7)
        | ((go_at_call 70; with_reducible refine (HAL.out _ _ _ kn _ _ _ _ O7.out E7 (HH.out.keys.ext (Ext.trans F0.out E7)) (fun hz0 a ha e => by have h8 := (O7.out.lt _ e.symm).1; have h9 := HLT.out _ _ _ _ _ _ _ HH.out.keys len_e64 (by omega) hz0 a ha; omega) (by omega) (by omega) (by have := HLL.out; rw [List.length_append]; simp; omega)).mono ?_); rintro e w8 ⟨v8, rfl, o8, EB⟩))
      all_goals
        have O8 := hide o8
        have E8 : Hid (Ext w0 w8) := hide EB
        clear o8 EB
        go_wp2_with fail
        go_meet
        exact ⟨hide (by rw [HKB.out, ← List.append_assoc]; exact O8.out), E8⟩
  case rest =>
  obtain ⟨O5, E5⟩ := hcut
  obtain ⟨w5, hw5⟩ : ∃ w5, w5 = wc := ⟨_, rfl⟩
  subst hw5
  clear O4 E4 x4 y4 S1 S2 e1 hi0 hz0 hz1 hz2
  have HL5 : Hid ((l4 ++ keyB nok K).length ≤ 10000000) := hide (by have h9 := HQ.out.2.2.2.2.1; have := HLL.out; rw [List.length_append]; omega)
  clear HLL hsz4
  generalize hl5 : l4 ++ keyB nok K = l5 at *
  have HLE5 := hide hl5
  clear hl5
  have x5 : w5.cell? ⟨w.heap.size, 5, none⟩ = some (.slice cA cn cc) := (Y0.out.ext E5.out).cell 5
  go_wp2_with fail
  go_loopw [4, 52] (fun r4 ri wr => ∃ k : Nat, k ≤ cn ∧ ri = .int .i64 k ∧ Hid (Own wr w5.heap.size 3 1 e64 r4 (rnN (C.take k))) ∧ Hid (Ext w5 wr)) (fun _ ri _ => cn - (intOf ri).toNat)
  case atStart => exact ⟨0, by omega, rfl, hide (by simpa [rnN] using Own.nil _ _ _ _ _), hide (Ext.refl _)⟩
  case round =>
    obtain ⟨k, hk, rfl, HO, HX⟩ := hrel
    have HXW := hide (Ext.trans F0.out (Ext.trans E5.out HX.out))
    by_cases hlt : k < cn
    · obtain ⟨b, off, rfl, _⟩ := HH.out.chunks.addr (by omega)
      obtain ⟨a0, a1⟩ := (HH.out.chunks.ext HXW.out).pair hlt
      simp only at a0 a1
      have HSU : Hid (rnN (C.take (k + 1)) = rnN (C.take k) ++ [(C.getD k (0, 0)).1, (C.getD k (0, 0)).2]) := hide (rnN_take (by have := HLC.out; omega))
      generalize (C.getD k (0, 0)).1 = x at *
      generalize (C.getD k (0, 0)).2 = y at *
      have hlk : (rnN (C.take k)).length = 2 * k := by rw [rnN_len, List.length_take]; have := HLC.out; omega
      have i1 : (k : Int) < (cn : Int) := by omega
      have i0 : (0 : Int) ≤ (k : Int) := by omega
      have i8 : IntKind.i64.wrap ((k : Int) + 1) = (k : Int) + 1 := by rw [IntKind.wrap_i64]; omega
      have S1 : Hid ((rnN (C.take k)).length + 2 ≤ maxLen) := hide (by rw [hlk]; unfold maxLen; omega)
      have S2 : Hid (((rnN (C.take k)).length + 2) * 8 ≤ 140737488355328) := hide (by rw [hlk]; omega)
      clear hlk
      go_upto_region 12 with (fail)
      refine gen_wpC fun w6 h6 => ?_
      have F6 : Hid (Ext wr w6) := hide (by rw [h6]; exact Ext.alloc _ _)
      have y0 : w6.cell? ⟨wr.heap.size, 0, none⟩ = some (.int .i64 x) := by rw [h6]; exact (Blk.new wr _ _).cell 0
      have y1 : w6.cell? ⟨wr.heap.size, 1, none⟩ = some (.int .i64 y) := by rw [h6]; exact (Blk.new wr _ _).cell 1
      have S3 : Hid (w5.heap.size ≤ (w6.alloc (.cells #[.int .i64 x, .int .i64 y] 3)).heap.size) := hide (by have := (Ext.trans HX.out F6.out).size; rw [World.size_alloc]; omega)
      clear h6 a0 a1
      go_wp2_with (at_builtin; refine wpList_append_at _ rfl (.tmp 56) (.tmp 61) 79 rfl w5.heap.size 3 j0_ _ 8 Try.underlying79 hj0 hy0 hy1 hy2 rfl (by omega) len_e64 one_e64 _ _ (by rfl) (HO.out.ext (Ext.trans F6.out (Ext.alloc _ _))) (some ⟨w6.heap.size, 0, none⟩) 2 2 [x, y] (by rfl) (At.newI2 w6 x y _) S1.out S2.out S3.out ?_; intro v7 w7 o7 g7 _ _; have O7 := hide o7; have G7 := hide g7; clear o7 g7)
      have E7 : Hid (Ext w5 w7) := hide (Own.below (HO.out.ext (Ext.trans F6.out (Ext.alloc _ _))) (Ext.trans HX.out (Ext.trans F6.out (Ext.alloc _ _))) G7.out (Nat.le_refl _))
      exact ⟨⟨k + 1, by omega, by go_num, hide (by rw [HSU.out]; exact O7.out), E7⟩, by simp [intOf]; omega⟩
    · obtain rfl : k = cn := by omega
      obtain ⟨vA, vc, hv, hat⟩ := HO.out.at_ len_e64
      have hln : (rnN (C.take k)).length = 2 * k := by rw [rnN_len, List.length_take]; have := HLC.out; omega
      have HTK : Hid (C.take k = C) := hide (List.take_of_length_le (by have := HLC.out; omega))
      have HAT := hide hat
      have HLO := HO.out.lt
      subst hv
      have EW := hide (Ext.trans E5.out HX.out)
      have HRL : Hid (∀ g, u3.ownBlock = some g → g < w5.heap.size) := hide (fun g hg => (O5.out.lt g hg).2)
      have x5 : wr.cell? ⟨w.heap.size, 5, none⟩ = some (.slice cA k cc) := (Y0.out.ext EW.out).cell 5
      have HA5 := hide (HAL.out _ _ _ k _ _ _ _ (O5.out.ext HX.out) EW.out HAT.out (fun _ a ha e => by subst ha; have h8 := HRL.out _ e.symm; have h9 := (HLO a.block rfl).1; omega) (by omega) (by omega) (by have := HL5.out; omega))
      clear hlt hat hln
      go_wp2_with fail
      with_reducible refine HA5.out.mono ?_
      rintro e w6 ⟨v6, rfl, o6, E6_⟩
      rw [HTK.out] at o6
      have O6 := hide o6
      have E6 : Hid (Ext w0 w6) := hide E6_
      clear o6 E6_ HA5 x5
      have x6 : w6.cell? ⟨w.heap.size, 6, none⟩ = some (.slice pA pn pc) := (Y0.out.ext E6.out).cell 6
      have HA6 := hide (HAL.out _ _ _ pn _ _ _ _ O6.out E6.out (HH.out.places.ext (Ext.trans F0.out E6.out)) (fun hz0 a ha e => by have h8 := (O6.out.lt _ e.symm).1; have h9 := HLT.out _ _ _ _ _ _ _ HH.out.places len_e64 (by omega) hz0 a ha; omega) (by omega) (by omega) (by have := HL5.out; have h9 := HQ.out.2.2.2.2.2; rw [List.length_append]; omega))
      go_wp2_with fail
      with_reducible refine HA6.out.mono ?_
      rintro e w7 ⟨v7, rfl, o7, E7_⟩
      have E7 : Hid (Ext w0 w7) := hide E7_
      obtain ⟨A7, c7, hv7, _⟩ := o7.at_ len_e8
      subst hv7
      have O7 := hide o7
      clear o7 E7_ HA6 x6
      go_wp2_with fail
      go_ret
      refine ⟨_, _, _, rfl, ?_, Ext.trans F0.out E7.out⟩
      rw [HTB.out, ← hs0]
      have h9 := O7.out
      rw [show (l5 ++ liB k (rnN C) ++ liB pn P).length = l5.length + ((liB k (rnN C)).length + (liB pn P).length) from by simp only [List.length_append]; omega] at h9
      exact h9
end Go.Proofs.Ytkbmgakehlmcnaa
namespace Go.Proofs.Ytkbmgakehlmcnaa
def smOK (l : List (Int × Int)) (c : Int) : Nat → Int
  | 0 => 0
  | k + 1 => if (l.getD k (0, 0)).1 ≤ c then (l.getD k (0, 0)).2 else smOK l c k
def smO (l : List (Int × Int)) (c : Int) : Int := smOK l c l.length
def allS (l : List (Int × Int)) : Nat → Int
  | 0 => 0
  | i + 1 => allS l i + smO l ((i : Int) + 1)
theorem smOK_bd {l : List (Int × Int)} (h : firstF (chEl l) l.length = 0) (c : Int) : ∀ k, k ≤ l.length → 0 ≤ smOK l c k ∧ smOK l c k ≤ 1000
  | 0, _ => by simp [smOK]
  | k + 1, hk => by
    have ih := smOK_bd h c k (by omega)
    have := (ch_ok h k (by omega)).1
    rw [smOK]; split <;> omega
theorem smO_bd {l : List (Int × Int)} (h : firstF (chEl l) l.length = 0) (c : Int) : 0 ≤ smO l c ∧ smO l c ≤ 1000 := smOK_bd h c _ (Nat.le_refl _)
theorem ch_mono {l : List (Int × Int)} (h : firstF (chEl l) l.length = 0) {i : Nat} : ∀ j, i < j → j < l.length → (l.getD i (0, 0)).1 < (l.getD j (0, 0)).1
  | 0, hij, _ => absurd hij (Nat.not_lt_zero _)
  | j + 1, hij, hj => by
    have h1 := (ch_ok h (j + 1) hj).2.2 (by omega)
    rw [show j + 1 - 1 = j by omega] at h1
    rcases Nat.lt_succ_iff_lt_or_eq.1 hij with h2 | h2
    · have := ch_mono h j h2 (by omega); omega
    · rw [h2]; exact h1
theorem smO_at {l : List (Int × Int)} (h : firstF (chEl l) l.length = 0) {k : Nat} (hk : k < l.length) {c : Int} (h1 : (l.getD k (0, 0)).1 ≤ c) (h2 : k + 1 < l.length → c < (l.getD (k + 1) (0, 0)).1) : smO l c = (l.getD k (0, 0)).2 := by
  have key : ∀ m, k < m → m ≤ l.length → smOK l c m = (l.getD k (0, 0)).2 := by
    intro m
    induction m with
    | zero => intro h3; omega
    | succ m ih =>
      intro h3 h4
      rcases Nat.lt_succ_iff_lt_or_eq.1 h3 with h5 | h5
      · have h6 := h2 (by omega)
        have h7 : ¬ (l.getD m (0, 0)).1 ≤ c := by
          rcases Nat.lt_or_ge (k + 1) m with h8 | h8
          · have := ch_mono h m h8 (by omega); omega
          · rw [show m = k + 1 by omega]; omega
        rw [smOK, if_neg h7]
        exact ih h5 (by omega)
      · subst h5
        rw [smOK, if_pos h1]
  exact key _ hk (Nat.le_refl _)
theorem allS_run {l : List (Int × Int)} {v : Int} (a : Nat) : ∀ m : Nat, (∀ c : Nat, a < c → c ≤ a + m → smO l (c : Int) = v) → allS l (a + m) = allS l a + (m : Int) * v
  | 0, _ => by simp
  | m + 1, h => by
    have ih := allS_run a m (fun c h1 h2 => h c h1 (by omega))
    have h1 := h (a + m + 1) (by omega) (by omega)
    rw [show a + (m + 1) = a + m + 1 by omega, allS, ih, show ((a + m : Nat) : Int) + 1 = ((a + m + 1 : Nat) : Int) by push_cast; rfl, h1]
    push_cast
    rw [Int.add_mul]; omega
theorem allS_first {l : List (Int × Int)} {p : Nat} (h : firstF (chEl l) l.length = 0) (hf : ¬ chForm l p) : ∀ k, k < l.length → allS l ((l.getD k (0, 0)).1 - 1).toNat = chSum l p k
  | 0, hk => by
    have := (ch_ok h 0 hk).2.1 rfl
    rw [this]; rfl
  | k + 1, hk => by
    have ih := allS_first h hf k (by omega)
    have h1 := (ch_ok h k (by omega)).1
    have h2 := ch_mono h (k + 1) (Nat.lt_succ_self k) hk
    have h3 := allS_run (l := l) (v := (l.getD k (0, 0)).2) ((l.getD k (0, 0)).1 - 1).toNat ((l.getD (k + 1) (0, 0)).1 - (l.getD k (0, 0)).1).toNat (fun c h4 h5 => smO_at h (by omega) (by omega) (fun _ => by omega))
    rw [show ((l.getD k (0, 0)).1 - 1).toNat + ((l.getD (k + 1) (0, 0)).1 - (l.getD k (0, 0)).1).toNat = ((l.getD (k + 1) (0, 0)).1 - 1).toNat by omega, ih] at h3
    rw [h3, chSum]
    have h8 : nextC l p k = (l.getD (k + 1) (0, 0)).1 := by unfold nextC; rw [if_pos hk]
    rw [h8, show ((((l.getD (k + 1) (0, 0)).1 - (l.getD k (0, 0)).1).toNat : Nat) : Int) = (l.getD (k + 1) (0, 0)).1 - (l.getD k (0, 0)).1 by omega]
theorem allS_sum {l : List (Int × Int)} {p : Nat} (h : firstF (chEl l) l.length = 0) (hf : ¬ chForm l p) : allS l p = chSum l p l.length := by
  rcases Nat.eq_zero_or_pos l.length with h0 | h0
  · have hp : p = 0 := by
      rcases Nat.eq_zero_or_pos p with h1 | h1
      · exact h1
      · exact absurd (.inl ⟨h1, h0⟩) hf
    subst hp; rw [h0]; rfl
  · obtain ⟨k, hk⟩ : ∃ k, l.length = k + 1 := ⟨l.length - 1, by omega⟩
    have h1 := allS_first h hf k (by omega)
    have h2 := (ch_ok h k (by omega)).1
    have h3 : ¬ ((p : Int) < (l.getD k (0, 0)).1) := fun hc => hf (.inr ⟨by omega, by rw [show l.length - 1 = k by omega]; exact hc⟩)
    have h4 := allS_run (l := l) (v := (l.getD k (0, 0)).2) ((l.getD k (0, 0)).1 - 1).toNat (p + 1 - (l.getD k (0, 0)).1.toNat) (fun c h5 h6 => smO_at h (by omega) (by omega) (fun _ => by omega))
    rw [show ((l.getD k (0, 0)).1 - 1).toNat + (p + 1 - (l.getD k (0, 0)).1.toNat) = p by omega, h1] at h4
    rw [h4, hk, chSum]
    have h8 : nextC l p k = (p : Int) + 1 := by unfold nextC; rw [if_neg (by omega)]
    rw [h8, show ((p + 1 - (l.getD k (0, 0)).1.toNat : Nat) : Int) = (p : Int) + 1 - (l.getD k (0, 0)).1 by omega]
structure TabR1 (t : Tab) : Prop where
  start : noT t.start = false
  steps : runsF 0 t.steps = 0
  few : cntA t.steps ≤ 5000
  shifts : runsF (-1000000000) t.shifts = 0
  same : cntA t.shifts = cntA t.steps
  sz : ¬ szBad (cntA t.steps) t.sizes.length
  sizes : firstF (szEl t.sizes) t.sizes.length = 0
  keys : firstF (kyEl (cntA t.steps) t.keys) t.keys.length = 0
  chunks : firstF (chEl t.chunks) t.chunks.length = 0
  form : ¬ chForm t.chunks t.places.length
  sum : chSum t.chunks t.places.length t.chunks.length = cntA t.steps
  places : firstF (plEl t.places) t.places.length = 0
  ends : noT (endI t.start t.steps t.steps.length) = false
theorem tab_right {t : Tab} (h : tabF t = 0) : TabR1 t := by
  have h1 : noT t.start = false := by
    cases hc : noT t.start with
    | false => rfl
    | true => rw [tabF_start hc] at h; omega
  have h2 : runsF 0 t.steps = 0 := Classical.byContradiction fun hc => by rw [tabF_steps h1 hc] at h; exact hc h
  have h3 : ¬ 5000 < cntA t.steps := fun hc => by rw [tabF_large h1 h2 hc] at h; omega
  have h4 : runsF (-1000000000) t.shifts = 0 := Classical.byContradiction fun hc => by rw [tabF_shifts h1 h2 h3 hc] at h; exact hc h
  rw [tabF_two h1 h2 h3 h4] at h
  have h5 : ¬ (cntA t.shifts ≠ cntA t.steps ∨ szBad (cntA t.steps) t.sizes.length) := fun hc => by rw [tabF2_form hc] at h; omega
  have h6 : firstF (szEl t.sizes) t.sizes.length = 0 := Classical.byContradiction fun hc => by rw [tabF2_sizes h5 hc] at h; exact hc h
  have h7 : firstF (kyEl (cntA t.steps) t.keys) t.keys.length = 0 := Classical.byContradiction fun hc => by rw [tabF2_keys h5 h6 hc] at h; exact hc h
  rw [tabF2_three h5 h6 h7] at h
  unfold tabF3 at h
  have h8 : chunksF (cntA t.steps) t.chunks t.places = 0 := Classical.byContradiction fun hc => by rw [if_pos hc] at h; exact hc h
  rw [if_neg (by omega)] at h
  have h9 : noT (endI t.start t.steps t.steps.length) = false := by
    cases hc : noT (endI t.start t.steps t.steps.length) with
    | false => rfl
    | true => rw [hc, if_pos rfl] at h; omega
  unfold chunksF at h8
  have g1 : firstF (chEl t.chunks) t.chunks.length = 0 := Classical.byContradiction fun hc => by rw [if_pos hc] at h8; exact hc h8
  rw [if_neg (by omega)] at h8
  have g2 : ¬ chForm t.chunks t.places.length := fun hc => by rw [if_pos hc] at h8; omega
  rw [if_neg g2] at h8
  have g3 : chSum t.chunks t.places.length t.chunks.length = cntA t.steps := Classical.byContradiction fun hc => by rw [if_pos hc] at h8; omega
  rw [if_neg (by omega)] at h8
  exact ⟨h1, h2, by omega, h4, by omega, fun hc => h5 (.inr hc), h6, h7, g1, g2, g3, h8, h9⟩
theorem key_at {n : Int} {l : List Int} (h : firstF (kyEl n l) l.length = 0) {i : Nat} (hi : i < l.length) : 1 ≤ l.getD i 0 ∧ l.getD i 0 ≤ n ∧ (0 < i → l.getD (i - 1) 0 < l.getD i 0) := by
  have := firstF_all h i hi
  unfold kyEl at this
  by_cases h1 : l.getD i 0 < 1 ∨ n < l.getD i 0
  · rw [if_pos h1] at this; omega
  · rw [if_neg h1] at this
    by_cases h2 : 0 < i ∧ l.getD i 0 ≤ l.getD (i - 1) 0
    · rw [if_pos h2] at this; omega
    · exact ⟨by omega, by omega, fun h3 => by omega⟩
theorem key_asc {n : Int} {l : List Int} (h : firstF (kyEl n l) l.length = 0) : ∀ i, i < l.length → (i : Int) + 1 ≤ l.getD i 0
  | 0, hi => by have := (key_at h hi).1; omega
  | i + 1, hi => by
    have ih := key_asc h i (by omega)
    have := (key_at h hi).2.2 (by omega)
    rw [show i + 1 - 1 = i by omega] at this
    omega
theorem smO_pos {l : List (Int × Int)} (h : firstF (chEl l) l.length = 0) (h0 : 0 < l.length) {c : Int} (hc : 1 ≤ c) : 1 ≤ smO l c := by
  have key : ∀ k, 0 < k → k ≤ l.length → 1 ≤ smOK l c k := by
    intro k
    induction k with
    | zero => intro h1; omega
    | succ k ih =>
      intro _ h2
      have h3 := ch_ok h k (by omega)
      rw [smOK]
      split
      · exact h3.1.2.2.1
      · rename_i h4
        rcases Nat.eq_zero_or_pos k with h5 | h5
        · have := h3.2.1 h5; omega
        · exact ih h5 (by omega)
  exact key _ h0 (Nat.le_refl _)
theorem allS_ge {l : List (Int × Int)} (h : firstF (chEl l) l.length = 0) (h0 : 0 < l.length) : ∀ i : Nat, (i : Int) ≤ allS l i
  | 0 => by simp [allS]
  | i + 1 => by
    have ih := allS_ge h h0 i
    have := smO_pos h h0 (c := (i : Int) + 1) (by omega)
    rw [allS]; omega
theorem tab_few {t : Tab} (h : TabR1 t) : t.steps.length ≤ 5000 ∧ t.shifts.length ≤ 5000 ∧ t.sizes.length ≤ 5000 ∧ t.keys.length ≤ 5000 ∧ t.chunks.length ≤ 5000 ∧ t.places.length ≤ 5000 := by
  have hf := h.few
  have h1 : (t.steps.length : Int) ≤ cntA t.steps := (cntI_bd h.steps _ (Nat.le_refl _)).1
  have h2 : (t.shifts.length : Int) ≤ cntA t.shifts := (cntI_bd h.shifts _ (Nat.le_refl _)).1
  have hs := h.same
  refine ⟨by omega, by omega, ?_, ?_, ch_len h.chunks, ?_⟩
  · have := h.sz
    unfold szBad at this
    omega
  · rcases Nat.eq_zero_or_pos t.keys.length with h0 | h0
    · omega
    · have h3 := key_asc h.keys (t.keys.length - 1) (by omega)
      have h4 := (key_at h.keys (i := t.keys.length - 1) (by omega)).2.1
      omega
  · rcases Nat.eq_zero_or_pos t.places.length with h0 | h0
    · omega
    · have h3 : 0 < t.chunks.length := Nat.pos_of_ne_zero fun hc => h.form (.inl ⟨h0, hc⟩)
      have h4 := allS_ge h.chunks h3 t.places.length
      have h5 := allS_sum h.chunks h.form
      have h6 := h.sum
      omega
end Go.Proofs.Ytkbmgakehlmcnaa
