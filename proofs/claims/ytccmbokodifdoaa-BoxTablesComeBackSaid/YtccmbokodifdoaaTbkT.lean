/- Proved: for every table and all bytes BoxTablesComeBack returns true: a table is read as it was written, and bytes of one are written as they were. Conditions: none. -/
import Derived.Test.YtccmbokodifdoaaNumA
import Derived.Test.YtccmbokodifdoaaTabB
import Derived.Test.YtccmbokodifdoaaLstA
import Derived.Test.YtccmbokodifdoaaTabQ
import Derived.Deep.RegionHeld3
import Derived.Test.YtccmbokodifdoaaTabC
import Derived.Test.YtccmbokodifdoaaRtA
import Derived.Test.YtccmbokodifdoaaLstP
import Derived.Test.YtccmbokodifdoaaOpenS
import Derived.Test.YtccmbokodifdoaaOpens2
import Derived.Test.YtccmbokodifdoaaLawG
import Derived.Test.YtccmbokodifdoaaRtC
import Derived.Test.YtccmbokodifdoaaSamB
import Derived.Test.YtccmbokodifdoaaBoxE
namespace Go.Proofs.Ytccmbokodifdoaa
open Go.RowKit
/-- Numbers as bytes, eight each. -/
def u64N (x : Int) : Nat := (IntKind.u64.wrap x).toNat
def lsB (l : List Int) : List UInt8 := l.flatMap fun x => beN 8 (u64N x)
def liB (many : Nat) (l : List Int) : List UInt8 := beN 4 many ++ lsB l
def rnN (l : List (Int × Int)) : List Int := l.flatMap fun r => [r.1, r.2]
theorem u64N_cast (x : Int) : ((u64N x : Nat) : Int) = IntKind.u64.wrap x := by unfold u64N; rw [IntKind.wrap_u64]; omega
theorem u64N_lt (x : Int) : u64N x < 18446744073709551616 := by unfold u64N; rw [IntKind.wrap_u64]; omega
theorem lsB_len (l : List Int) : (lsB l).length = 8 * l.length := by
  induction l with
  | nil => rfl
  | cons x xs ih => unfold lsB at ih ⊢; rw [List.flatMap_cons, List.length_append, ih, List.length_cons, beN_len]; omega
theorem lsB_take {l : List Int} {k : Nat} (h : k < l.length) : lsB (l.take (k + 1)) = lsB (l.take k) ++ beN 8 (u64N (l.getD k 0)) := by
  unfold lsB; rw [getD_take l k 0 h, List.flatMap_append]; simp
theorem rnN_len (l : List (Int × Int)) : (rnN l).length = 2 * l.length := by
  induction l with
  | nil => rfl
  | cons x xs ih => unfold rnN at ih ⊢; rw [List.flatMap_cons, List.length_append, ih, List.length_cons]; simp; omega
theorem rnN_take {l : List (Int × Int)} {k : Nat} (h : k < l.length) : rnN (l.take (k + 1)) = rnN (l.take k) ++ [(l.getD k (0, 0)).1, (l.getD k (0, 0)).2] := by
  unfold rnN; rw [getD_take l k (0, 0) h, List.flatMap_append]; simp
theorem At.newI2 (w : World) (x y : Int) (t : TypeId) : At (w.alloc (.cells #[.int .i64 x, .int .i64 y] t)) 1 e64 (some ⟨w.heap.size, 0, none⟩) 2 2 [x, y] :=
  ⟨rfl, Nat.le_refl _, by unfold maxLen; omega, fun h => (by cases h), fun k z hz => ⟨_, _, rfl, fun j u hu => by
    have hb := Blk.new w t #[.int .i64 x, .int .i64 y]
    match k, hz with
    | 0, hz =>
      simp at hz; subst hz
      match j, hu with
      | 0, hu => simp at hu; subst hu; exact hb.cell 0
      | j + 1, hu => simp at hu
    | 1, hz =>
      simp at hz; subst hz
      match j, hu with
      | 0, hu => simp at hu; subst hu; exact hb.cell 1
      | j + 1, hu => simp at hu
    | k + 2, hz => simp at hz⟩⟩
set_option linter.unusedVariables false in
set_option maxRecDepth 100000 in
set_option maxHeartbeats 4000000 in
/-- A row that has grown: its old block, or a new one. -/
structure Grw (w w' : World) (v v' : Value) : Prop where
  grown : w.grownBy w' v.ownBlock
  row : v'.ownBlock = v.ownBlock ∨ ∃ g, v'.ownBlock = some g ∧ w.heap.size ≤ g
theorem Grw.refl (w : World) (v : Value) : Grw w w v v := ⟨World.grownBy.refl w _, .inl rfl⟩
theorem Grw.trans {a b c : World} {u v x : Value} (h : Grw a b u v) (k : Grw b c v x) : Grw a c u x := by
  refine ⟨⟨k.grown.os.trans h.grown.os, k.grown.tape.trans h.grown.tape, k.grown.output.trans h.grown.output, Nat.le_trans h.grown.size k.grown.size, fun q hq hr => (k.grown.block q (Nat.lt_of_lt_of_le hq h.grown.size) (fun e => ?_)).trans (h.grown.block q hq hr)⟩, ?_⟩
  · rcases h.row with h1 | ⟨g, h1, h2⟩
    · exact hr (e.trans h1)
    · rw [h1] at e; have := Option.some.inj e; omega
  · rcases k.row with h1 | ⟨g, h1, h2⟩
    · rcases h.row with h3 | ⟨g, h3, h4⟩
      · exact .inl (h1.trans h3)
      · exact .inr ⟨g, h1.trans h3, h4⟩
    · exact .inr ⟨g, h1, Nat.le_trans h.grown.size h2⟩
theorem Grw.ahead {a b c : World} {u v : Value} (h : Ext a b) (k : Grw b c u v) : Grw a c u v :=
  ⟨⟨k.grown.os.trans h.os, k.grown.tape.trans h.tape, k.grown.output.trans h.output, Nat.le_trans h.size k.grown.size, fun q hq hr => (k.grown.block q (Nat.lt_of_lt_of_le hq h.size) hr).trans (h.block q hq)⟩, by
    rcases k.row with h1 | ⟨g, h1, h2⟩
    · exact .inl h1
    · exact .inr ⟨g, h1, Nat.le_trans h.size h2⟩⟩
theorem Grw.of {w w' : World} {v v' : Value} (hg : w.grownBy w' v.ownBlock) (hr : v'.ownBlock = v.ownBlock ∨ v'.ownBlock = some w.heap.size) : Grw w w' v v' :=
  ⟨hg, by rcases hr with h | h
          · exact .inl h
          · exact .inr ⟨_, h, Nat.le_refl _⟩⟩
theorem At.grow {α : Type} {w w' : World} {sz : Nat} {enc : α → List Value} {A : Option Addr} {n c : Nat} {xs : List α} {row : Option Nat} (h : At w sz enc A n c xs) (hg : w.grownBy w' row) (hr : ∀ a, A = some a → some a.block ≠ row) : At w' sz enc A n c xs :=
  ⟨h.len, h.le, h.max, h.none_, fun k x hx => by
    obtain ⟨b, off, e, hc⟩ := h.cells k x hx
    have h2 := hr _ e
    refine ⟨b, off, e, fun j u hu => ?_⟩
    have h3 := hc j u hu
    have h4 := hg.block b (by have := cell_lt h3; simpa using this) h2
    unfold World.cell? at h3 ⊢
    simp only at h3 ⊢
    rw [h4]
    exact h3⟩
/-- What an append of bytes to an own row gives. -/
def GrGives (w : World) (base : Nat) (v : Value) (l : List UInt8) (e : Ending) (w' : World) : Prop := ∃ v', e = .returned v' ∧ Own w' base 5 1 e8 v' l ∧ Grw w w' v v'
set_option linter.unusedVariables false in
set_option maxRecDepth 100000 in
set_option maxHeartbeats 2000000 in
theorem appendNumberG {w : World} {base many n : Nat} {z : Int} {v : Value} {l : List UInt8} (ho : Own w base 5 1 e8 v l) (hbw : base ≤ w.heap.size) (hz : (many : Int) = z) (hm : many ≤ 8) (hn : n < 18446744073709551616) (hl : l.length ≤ 1000000000) :
    Calls Try.prog 77 #[v, .int .u64 (n : Int), .int .i64 z] w (GrGives w base v (l ++ beN many n)) := by
  subst hz
  have HO := hide ho
  clear ho
  go_enter Try.func77, Try.ntmps77
  go_wp2_with fail
  go_loopw [0, 7] (fun r0 r7 wr => ∃ k : Nat, k ≤ many ∧ r7 = .int .i64 ((k : Int) - 1) ∧ Hid (Own wr base 5 1 e8 r0 (l ++ beN (many - k) (n / 256 ^ k))) ∧ Hid (Grw w wr v r0) ∧ Hid (base ≤ wr.heap.size)) (fun _ r7 _ => ((intOf r7) + 1).toNat)
  case atStart => exact ⟨many, by omega, by go_num, hide (by rw [Nat.sub_self]; simpa [beN] using HO.out), hide (Grw.refl _ _), hide hbw⟩
  case round =>
    obtain ⟨k, hk, rfl, HK, HX, HBW⟩ := hrel
    by_cases h0 : 0 < k
    · obtain ⟨j, rfl⟩ : ∃ j, k = j + 1 := ⟨k - 1, by omega⟩
      have e1 : ((j + 1 : Nat) : Int) - 1 = (j : Int) := by omega
      rw [e1]
      have i1 : (0 : Int) ≤ (j : Int) := by omega
      have i2 : IntKind.i64.wrap (8 * (j : Int)) = 8 * (j : Int) := by rw [IntKind.wrap_i64]; omega
      have HU : Hid (e8 (UInt8.ofNat (n / 256 ^ j)) = [.int .u8 ((n : Int) / 2 ^ (8 * j) % 256)]) := hide (e8_byte n j)
      have HL : Hid ((l ++ beN (many - (j + 1)) (n / 256 ^ (j + 1))).length + 1 ≤ maxLen) := hide (by rw [List.length_append, beN_len]; unfold maxLen; omega)
      have HL2 : Hid (((l ++ beN (many - (j + 1)) (n / 256 ^ (j + 1))).length + 1) * 1 ≤ 140737488355328) := hide (by rw [List.length_append, beN_len]; omega)
      have HB2 : Hid (base ≤ (wr.alloc (.cells #[.int .u8 ((n : Int) / 2 ^ (8 * j) % 256)] 5)).heap.size) := hide (by rw [World.size_alloc]; have := HBW.out; omega)
      have HE2 : Hid (l ++ beN (many - (j + 1)) (n / 256 ^ (j + 1)) ++ [UInt8.ofNat (n / 256 ^ j)] = l ++ beN (many - j) (n / 256 ^ j)) := hide (by rw [beN_step n j many (by omega), List.append_assoc])
      obtain ⟨i0_, hi0, hz0, hz1, hz2⟩ := info_parts Try.info5
      clear e1
      go_wp2_with (at_builtin; refine wpList_append_at _ rfl (.tmp 14) (.tmp 20) 22 rfl base 5 i0_ _ 1 Try.underlying22 hi0 hz0 hz1 hz2 rfl (by omega) len_e8 one_e8 u0 _ (by rfl) (HK.out.ext (Ext.alloc _ _)) (some ⟨wr.heap.size, 0, none⟩) 1 1 [UInt8.ofNat (n / 256 ^ j)] (by rfl) (At.new1 wr _ _ HU.out _) HL.out HL2.out HB2.out ?_; intro v7 w7 o7 g7 _ r7; have O7 := hide o7; have G7 := hide g7; have R7 := hide r7; clear o7 g7 r7)
      exact ⟨⟨j, by omega, by go_num, hide (by rw [← HE2.out]; exact O7.out), hide (HX.out.trans (Grw.ahead (Ext.alloc _ _) (Grw.of G7.out R7.out))), hide (by have := G7.out.size; have := HB2.out; omega)⟩, by simp [intOf]⟩
    · obtain rfl : k = 0 := by omega
      have HV : Hid (l ++ beN (many - 0) (n / 256 ^ 0) = l ++ beN many n) := hide (by simp)
      have i1 : ¬ (0 : Int) ≤ ((0 : Nat) : Int) - 1 := by omega
      have e1 : ((0 : Nat) : Int) - 1 = -1 := by omega
      rw [e1] at i1 ⊢
      clear e1
      go_wp2_with fail
      go_ret
      exact ⟨_, rfl, by rw [← HV.out]; exact HK.out, HX.out⟩
set_option linter.unusedVariables false in
set_option maxRecDepth 100000 in
set_option maxHeartbeats 4000000 in
theorem appendList_any {w : World} {base many : Nat} {v : Value} {l : List UInt8} {A : Option Addr} {n c : Nat} {ns : List Int} (ho : Own w base 5 1 e8 v l) (hbw : base ≤ w.heap.size) (h : At w 1 e64 A n c ns) (hlo : 0 < n → ∀ a, A = some a → some a.block ≠ v.ownBlock) (hmn : many ≤ 1000000) (hn : n ≤ 1000000) (hl : l.length ≤ 100000000) :
    Calls Try.prog 78 #[v, .int .i64 (many : Int), .slice A n c] w (GrGives w base v (l ++ liB many ns)) := by
  have H := hide h
  have HNL := hide h.len
  have HLO := hide hlo
  have HAN := hide (appendNumberG (n := many) (many := 4) (z := 4) ho hbw rfl (by omega) (by omega) (by omega))
  have u0 : IntKind.u64.wrap (many : Int) = (many : Int) := by rw [IntKind.wrap_u64]; omega
  clear ho h hlo
  go_enter Try.func78, Try.ntmps78
  go_wp2_with fail
  with_reducible refine HAN.out.mono ?_
  rintro e w1 ⟨v1, rfl, o1, g1⟩
  have O1 := hide o1
  have G1 := hide g1
  have hbw1 : base ≤ w1.heap.size := Nat.le_trans hbw g1.grown.size
  clear o1 g1 HAN
  go_wp2_with fail
  go_loopw [0, 15] (fun r0 ri wr => ∃ k : Nat, k ≤ n ∧ ri = .int .i64 k ∧ Hid (Own wr base 5 1 e8 r0 (l ++ beN 4 many ++ lsB (ns.take k))) ∧ Hid (Grw w wr v r0)) (fun _ ri _ => n - (intOf ri).toNat)
  case atStart => exact ⟨0, by omega, rfl, hide (by simpa [lsB] using O1.out), G1⟩
  case round =>
    obtain ⟨k, hk, rfl, HO, HX⟩ := hrel
    have hbwr : base ≤ wr.heap.size := Nat.le_trans hbw HX.out.grown.size
    by_cases hlt : k < n
    · obtain ⟨b, off, rfl, _⟩ := H.out.addr (by omega)
      have a0 := (H.out.grow HX.out.grown (HLO.out (by omega))).num hlt
      have HSU : Hid (l ++ beN 4 many ++ lsB (ns.take (k + 1)) = l ++ beN 4 many ++ lsB (ns.take k) ++ beN 8 (u64N (ns.getD k 0))) := hide (by rw [lsB_take (by have := HNL.out; omega)]; simp only [List.append_assoc])
      have hlk : (l ++ beN 4 many ++ lsB (ns.take k)).length ≤ 1000000000 := by rw [List.length_append, List.length_append, beN_len, lsB_len, List.length_take]; omega
      have HA8 := hide (appendNumberG (n := u64N (ns.getD k 0)) (many := 8) (z := 8) HO.out hbwr rfl (by omega) (u64N_lt _) hlk)
      have ux := (u64N_cast (ns.getD k 0)).symm
      generalize ns.getD k 0 = x at *
      have i1 : (k : Int) < (n : Int) := by omega
      have i0 : (0 : Int) ≤ (k : Int) := by omega
      have i8 : IntKind.i64.wrap ((k : Int) + 1) = (k : Int) + 1 := by rw [IntKind.wrap_i64]; omega
      clear hlk
      go_wp2_with fail
      with_reducible refine HA8.out.mono ?_
      rintro e w2 ⟨v2, rfl, o2, g2⟩
      have O2 := hide o2
      have G2 := hide g2
      clear o2 g2
      go_wp2_with fail
      exact ⟨⟨k + 1, by omega, by go_num, hide (by rw [HSU.out]; exact O2.out), hide (HX.out.trans G2.out)⟩, by simp [intOf]; omega⟩
    · obtain rfl : k = n := by omega
      have HV : Hid (l ++ beN 4 many ++ lsB (ns.take k) = l ++ liB many ns) := hide (by unfold liB; rw [List.take_of_length_le (by have := HNL.out; omega), List.append_assoc])
      clear hlt
      go_wp2_with fail
      go_ret
      exact ⟨_, rfl, by rw [← HV.out]; exact HO.out, HX.out⟩
set_option linter.unusedVariables false in
set_option maxRecDepth 100000 in
set_option maxHeartbeats 4000000 in
theorem runNumbers_any {A : Option Addr} {n c : Nat} {l : List (Int × Int)} {w : World} (h : At w 2 e2 A n c l) (hn : n ≤ 1000000) :
    Calls Try.prog 79 #[.slice A n c] w fun e w' => ∃ T k tc, e = .returned (.slice T k tc) ∧ At w' 1 e64 T k tc (rnN l) ∧ Ext w w' ∧ ∀ a, T = some a → w.heap.size ≤ a.block := by
  have H := hide h
  have HL := hide h.len
  obtain ⟨i0_, hi0, hz0, hz1, hz2⟩ := info_parts Try.info3
  clear h
  go_enter Try.func79, Try.ntmps79
  go_wp2_with fail
  go_loopw [3, 8] (fun r3 ri wr => ∃ k : Nat, k ≤ n ∧ ri = .int .i64 k ∧ Hid (Own wr w.heap.size 3 1 e64 r3 (rnN (l.take k))) ∧ Hid (Ext w wr)) (fun _ ri _ => n - (intOf ri).toNat)
  case atStart => exact ⟨0, by omega, rfl, hide (by simpa [rnN] using Own.nil _ _ _ _ _), hide (Ext.refl _)⟩
  case round =>
    obtain ⟨k, hk, rfl, HO, HX⟩ := hrel
    by_cases hlt : k < n
    · obtain ⟨b, off, rfl, _⟩ := H.out.addr (by omega)
      obtain ⟨a0, a1⟩ := (H.out.ext HX.out).pair hlt
      have HSU : Hid (rnN (l.take (k + 1)) = rnN (l.take k) ++ [(l.getD k (0, 0)).1, (l.getD k (0, 0)).2]) := hide (rnN_take (by have := HL.out; omega))
      generalize (l.getD k (0, 0)).1 = x at *
      generalize (l.getD k (0, 0)).2 = y at *
      have hlk : (rnN (l.take k)).length = 2 * k := by rw [rnN_len, List.length_take]; have := HL.out; omega
      have i1 : (k : Int) < (n : Int) := by omega
      have i0 : (0 : Int) ≤ (k : Int) := by omega
      have i8 : IntKind.i64.wrap ((k : Int) + 1) = (k : Int) + 1 := by rw [IntKind.wrap_i64]; omega
      have S1 : Hid ((rnN (l.take k)).length + 2 ≤ maxLen) := hide (by rw [hlk]; unfold maxLen; omega)
      have S2 : Hid (((rnN (l.take k)).length + 2) * 8 ≤ 140737488355328) := hide (by rw [hlk]; omega)
      clear hlk
      go_upto_region 5 with (fail)
      refine gen_wpC fun w5 h5 => ?_
      have F5 : Hid (Ext wr w5) := hide (by rw [h5]; exact Ext.alloc _ _)
      have y0 : w5.cell? ⟨wr.heap.size, 0, none⟩ = some (.int .i64 x) := by rw [h5]; exact (Blk.new wr _ _).cell 0
      have y1 : w5.cell? ⟨wr.heap.size, 1, none⟩ = some (.int .i64 y) := by rw [h5]; exact (Blk.new wr _ _).cell 1
      have S3 : Hid (w.heap.size ≤ (w5.alloc (.cells #[.int .i64 x, .int .i64 y] 3)).heap.size) := hide (by have := (Ext.trans HX.out F5.out).size; rw [World.size_alloc]; omega)
      clear h5 a0 a1
      go_wp2_with (at_builtin; refine wpList_append_at _ rfl (.tmp 12) (.tmp 17) 34 rfl w.heap.size 3 i0_ _ 8 Try.underlying34 hi0 hz0 hz1 hz2 rfl (by omega) len_e64 one_e64 _ _ (by rfl) (HO.out.ext (Ext.trans F5.out (Ext.alloc _ _))) (some ⟨w5.heap.size, 0, none⟩) 2 2 [x, y] (by rfl) (At.newI2 w5 x y _) S1.out S2.out S3.out ?_; intro v7 w7 o7 g7 _ _; have O7 := hide o7; have G7 := hide g7; clear o7 g7)
      have E7 : Hid (Ext w w7) := hide (Own.below (HO.out.ext (Ext.trans F5.out (Ext.alloc _ _))) (Ext.trans HX.out (Ext.trans F5.out (Ext.alloc _ _))) G7.out (Nat.le_refl _))
      exact ⟨⟨k + 1, by omega, by go_num, hide (by rw [HSU.out]; exact O7.out), E7⟩, by simp [intOf]; omega⟩
    · obtain rfl : k = n := by omega
      obtain ⟨vA, vc, hv, hat⟩ := HO.out.at_ len_e64
      have HAT := hide hat
      have HLT := HO.out.lt
      have HTK : Hid (l.take k = l) := hide (List.take_of_length_le (by have := HL.out; omega))
      subst hv
      clear hlt hat
      go_wp2_with fail
      go_ret
      have HAT2 := HAT.out
      rw [HTK.out] at HAT2 ⊢
      exact ⟨_, _, _, rfl, HAT2, HX.out, fun a ha => by subst ha; exact (HLT a.block rfl).1⟩
end Go.Proofs.Ytccmbokodifdoaa
namespace Go.Proofs.Ytccmbokodifdoaa
/-- What is known of a right table. -/
structure TabR1 (t : Tab) : Prop where
  start : noT t.start = false
  steps : runsF 0 t.steps = 0
  few : cntA t.steps ≤ 5000
  shifts : runsF (-1000000000) t.shifts = 0
  same : cntA t.shifts = cntA t.steps
  sz : ¬ szBad (cntA t.steps) t.sizes.length
  sizes : firstF (szEl t.sizes) t.sizes.length = 0
  keys : firstF (kyEl (cntA t.steps) t.keys) t.keys.length = 0
  chunks : firstF (chEl t.chunks) t.chunks.length = 0
  form : ¬ chForm t.chunks t.places.length
  sum : chSum t.chunks t.places.length t.chunks.length = cntA t.steps
  places : firstF (plEl t.places) t.places.length = 0
  ends : noT (endI t.start t.steps t.steps.length) = false
theorem tab_right {t : Tab} (h : tabF t = 0) : TabR1 t := by
  have h1 : noT t.start = false := by
    cases hc : noT t.start with
    | false => rfl
    | true => rw [tabF_start hc] at h; omega
  have h2 : runsF 0 t.steps = 0 := Classical.byContradiction fun hc => by rw [tabF_steps h1 hc] at h; exact hc h
  have h3 : ¬ 5000 < cntA t.steps := fun hc => by rw [tabF_large h1 h2 hc] at h; omega
  have h4 : runsF (-1000000000) t.shifts = 0 := Classical.byContradiction fun hc => by rw [tabF_shifts h1 h2 h3 hc] at h; exact hc h
  rw [tabF_two h1 h2 h3 h4] at h
  have h5 : ¬ (cntA t.shifts ≠ cntA t.steps ∨ szBad (cntA t.steps) t.sizes.length) := fun hc => by rw [tabF2_form hc] at h; omega
  have h6 : firstF (szEl t.sizes) t.sizes.length = 0 := Classical.byContradiction fun hc => by rw [tabF2_sizes h5 hc] at h; exact hc h
  have h7 : firstF (kyEl (cntA t.steps) t.keys) t.keys.length = 0 := Classical.byContradiction fun hc => by rw [tabF2_keys h5 h6 hc] at h; exact hc h
  rw [tabF2_three h5 h6 h7] at h
  unfold tabF3 at h
  have h8 : chunksF (cntA t.steps) t.chunks t.places = 0 := Classical.byContradiction fun hc => by rw [if_pos hc] at h; exact hc h
  rw [if_neg (by omega)] at h
  have h9 : noT (endI t.start t.steps t.steps.length) = false := by
    cases hc : noT (endI t.start t.steps t.steps.length) with
    | false => rfl
    | true => rw [hc, if_pos rfl] at h; omega
  unfold chunksF at h8
  have g1 : firstF (chEl t.chunks) t.chunks.length = 0 := Classical.byContradiction fun hc => by rw [if_pos hc] at h8; exact hc h8
  rw [if_neg (by omega)] at h8
  have g2 : ¬ chForm t.chunks t.places.length := fun hc => by rw [if_pos hc] at h8; omega
  rw [if_neg g2] at h8
  have g3 : chSum t.chunks t.places.length t.chunks.length = cntA t.steps := Classical.byContradiction fun hc => by rw [if_pos hc] at h8; omega
  rw [if_neg (by omega)] at h8
  exact ⟨h1, h2, by omega, h4, by omega, fun hc => h5 (.inr hc), h6, h7, g1, g2, g3, h8, h9⟩
theorem key_at {n : Int} {l : List Int} (h : firstF (kyEl n l) l.length = 0) {i : Nat} (hi : i < l.length) : 1 ≤ l.getD i 0 ∧ l.getD i 0 ≤ n ∧ (0 < i → l.getD (i - 1) 0 < l.getD i 0) := by
  have := firstF_all h i hi
  unfold kyEl at this
  by_cases h1 : l.getD i 0 < 1 ∨ n < l.getD i 0
  · rw [if_pos h1] at this; omega
  · rw [if_neg h1] at this
    by_cases h2 : 0 < i ∧ l.getD i 0 ≤ l.getD (i - 1) 0
    · rw [if_pos h2] at this; omega
    · exact ⟨by omega, by omega, fun h3 => by omega⟩
theorem key_asc {n : Int} {l : List Int} (h : firstF (kyEl n l) l.length = 0) : ∀ i, i < l.length → (i : Int) + 1 ≤ l.getD i 0
  | 0, hi => by have := (key_at h hi).1; omega
  | i + 1, hi => by
    have ih := key_asc h i (by omega)
    have := (key_at h hi).2.2 (by omega)
    rw [show i + 1 - 1 = i by omega] at this
    omega
theorem smO_pos {l : List (Int × Int)} (h : firstF (chEl l) l.length = 0) (h0 : 0 < l.length) {c : Int} (hc : 1 ≤ c) : 1 ≤ smO l c := by
  have key : ∀ k, 0 < k → k ≤ l.length → 1 ≤ smOK l c k := by
    intro k
    induction k with
    | zero => intro h1; omega
    | succ k ih =>
      intro _ h2
      have h3 := ch_ok h k (by omega)
      rw [smOK]
      split
      · exact h3.1.2.2.1
      · rename_i h4
        rcases Nat.eq_zero_or_pos k with h5 | h5
        · have := h3.2.1 h5; omega
        · exact ih h5 (by omega)
  exact key _ h0 (Nat.le_refl _)
theorem allS_ge {l : List (Int × Int)} (h : firstF (chEl l) l.length = 0) (h0 : 0 < l.length) : ∀ i : Nat, (i : Int) ≤ allS l i
  | 0 => by simp [allS]
  | i + 1 => by
    have ih := allS_ge h h0 i
    have := smO_pos h h0 (c := (i : Int) + 1) (by omega)
    rw [allS]; omega
theorem tab_few {t : Tab} (h : TabR1 t) : t.steps.length ≤ 5000 ∧ t.shifts.length ≤ 5000 ∧ t.sizes.length ≤ 5000 ∧ t.keys.length ≤ 5000 ∧ t.chunks.length ≤ 5000 ∧ t.places.length ≤ 5000 := by
  have hf := h.few
  have h1 : (t.steps.length : Int) ≤ cntA t.steps := (cntI_bd h.steps _ (Nat.le_refl _)).1
  have h2 : (t.shifts.length : Int) ≤ cntA t.shifts := (cntI_bd h.shifts _ (Nat.le_refl _)).1
  have hs := h.same
  refine ⟨by omega, by omega, ?_, ?_, ch_len h.chunks, ?_⟩
  · have := h.sz
    unfold szBad at this
    omega
  · rcases Nat.eq_zero_or_pos t.keys.length with h0 | h0
    · omega
    · have h3 := key_asc h.keys (t.keys.length - 1) (by omega)
      have h4 := (key_at h.keys (i := t.keys.length - 1) (by omega)).2.1
      omega
  · rcases Nat.eq_zero_or_pos t.places.length with h0 | h0
    · omega
    · have h3 : 0 < t.chunks.length := Nat.pos_of_ne_zero fun hc => h.form (.inl ⟨h0, hc⟩)
      have h4 := allS_ge h.chunks h3 t.places.length
      have h5 := allS_sum h.chunks h.form
      have h6 := h.sum
      omega
end Go.Proofs.Ytccmbokodifdoaa
namespace Go.Proofs.Ytccmbokodifdoaa
open Go.RowKit
def keyB (nok : Bool) (K : List Int) : List UInt8 := if nok = true then [0] else [1] ++ liB K.length K
/-- A table as bytes. -/
def tabBy (t : Tab) : List UInt8 := beN 8 (u64N t.start) ++ liB t.steps.length (rnN t.steps) ++ liB t.shifts.length (rnN t.shifts) ++ liB t.sizes.length t.sizes ++ keyB t.nok t.keys ++ liB t.chunks.length (rnN t.chunks) ++ liB t.places.length t.places
theorem liB_len (m : Nat) (l : List Int) : (liB m l).length = 4 + 8 * l.length := by unfold liB; rw [List.length_append, beN_len, lsB_len]
theorem keyB_len (nok : Bool) (K : List Int) : (keyB nok K).length ≤ 5 + 8 * K.length := by
  unfold keyB
  cases nok with
  | true => rw [if_pos rfl]; simp; omega
  | false => rw [if_neg (by simp), List.length_append, liB_len]; simp; omega
/-- Few of all. -/
structure TabFw (sn hn zn kn cn pn : Nat) : Prop where
  s : sn ≤ 5000
  h : hn ≤ 5000
  z : zn ≤ 5000
  k : kn ≤ 5000
  c : cn ≤ 5000
  p : pn ≤ 5000
set_option linter.unusedVariables false in
set_option linter.unusedSimpArgs false in
set_option maxRecDepth 100000 in
set_option maxHeartbeats 16000000 in
theorem tableBytes_in {st : Int} {sA : Option Addr} {sn sc : Nat} {hA : Option Addr} {hn hc : Nat} {zA : Option Addr} {zn zc : Nat} {kA : Option Addr} {kn kc : Nat} {cA : Option Addr} {cn cc : Nat} {pA : Option Addr} {pn pc : Nat} {t : Tab} {w : World} (h : TabAt w sA sn sc hA hn hc zA zn zc kA kn kc cA cn cc pA pn pc t) (hst : t.start = st) (hf : TabFw sn hn zn kn cn pn) :
    Calls Try.prog 53 #[.agg #[.int .i64 st, .slice sA sn sc, .slice hA hn hc, .slice zA zn zc, .slice kA kn kc, .slice cA cn cc, .slice pA pn pc]] w fun e w' => ∃ T k tc, e = .returned (.slice T k tc) ∧ Own w' (w.heap.size + 1) 5 1 e8 (.slice T k tc) (tabBy t) ∧ Ext w w' := by
  subst hst
  obtain ⟨st, S, SH, Z, K, nok, C, P⟩ := t
  simp only at h ⊢
  obtain ⟨f1, f2, f3, f4, f5, f6⟩ := hf
  have LS : S.length = sn := h.steps.len
  have LH : SH.length = hn := h.shifts.len
  have LZ : Z.length = zn := h.sizes.len
  have LK : K.length = kn := h.keys.len
  have LC : C.length = cn := h.chunks.len
  have LP : P.length = pn := h.places.len
  have HTB : Hid (tabBy ⟨st, S, SH, Z, K, nok, C, P⟩ = beN 8 (u64N st) ++ liB sn (rnN S) ++ liB hn (rnN SH) ++ liB zn Z ++ keyB nok K ++ liB cn (rnN C) ++ liB pn P) := hide (by unfold tabBy; simp only [LS, LH, LZ, LC, LP])
  have q0 : (beN 8 (u64N st)).length = 8 := beN_len _ _
  have q1 : (liB sn (rnN S)).length = 4 + 16 * sn := by rw [liB_len, rnN_len, LS]; omega
  have q2 : (liB hn (rnN SH)).length = 4 + 16 * hn := by rw [liB_len, rnN_len, LH]; omega
  have q3 : (liB zn Z).length = 4 + 8 * zn := by rw [liB_len, LZ]
  have q4 : (keyB nok K).length ≤ 5 + 8 * kn := by rw [← LK]; exact keyB_len nok K
  have q5 : (liB cn (rnN C)).length = 4 + 16 * cn := by rw [liB_len, rnN_len, LC]; omega
  have HQ := hide (And.intro q0 (And.intro q1 (And.intro q2 (And.intro q3 (And.intro q4 q5)))))
  have HLK := hide LK
  have HLC := hide LC
  have HNK := hide h.nok
  have HH := hide h
  have E0 := hide (Ext.alloc w (.cells #[.int .i64 st, .slice sA sn sc, .slice hA hn hc, .slice zA zn zc, .slice kA kn kc, .slice cA cn cc, .slice pA pn pc] 38))
  have X0 := hide (Blk.new w 38 #[.int .i64 st, .slice sA sn sc, .slice hA hn hc, .slice zA zn zc, .slice kA kn kc, .slice cA cn cc, .slice pA pn pc])
  have e1 := fun (W : World) => Lib.run_eql_slice_nil (P := Try.prog) W 34 3 kA kn kc 0 0 Try.underlying34
  have HLT : Hid (∀ (α : Type) (sz : Nat) (enc : α → List Value) (A : Option Addr) (n c : Nat) (l : List α), At w sz enc A n c l → (∀ x, (enc x).length = sz) → 0 < sz → 0 < n → ∀ a, A = some a → a.block < w.heap.size) := hide (fun α sz enc A n c l ha h1 h2 h3 => ha.blk_lt h1 h2 h3)
  clear h q0 q1 q2 q3 q4 q5 LS LH LZ LK LC LP
  go_enter Try.func53, Try.ntmps53
  go_upto_region 1 with (fail)
  refine gen_wpC fun w0 h0 => ?_
  have hs0 : w0.heap.size = w.heap.size + 1 := by rw [h0]; exact World.size_alloc _ _
  have F0 : Hid (Ext w w0) := hide (by rw [h0]; exact E0.out)
  have Y0 : Hid (Blk w0 w.heap.size 38 #[.int .i64 st, .slice sA sn sc, .slice hA hn hc, .slice zA zn zc, .slice kA kn kc, .slice cA cn cc, .slice pA pn pc]) := hide (by rw [h0]; exact X0.out)
  clear h0 E0 X0
  have x0 : w0.cell? ⟨w.heap.size, 0, none⟩ = some (.int .i64 st) := Y0.out.cell 0
  have u0 : IntKind.u64.wrap st = ((u64N st : Nat) : Int) := (u64N_cast st).symm
  have HA0 := hide (appendNumberG (w := w0) (n := u64N st) (many := 8) (z := 8) (base := w0.heap.size) (Own.nil w0 w0.heap.size 5 1 e8) (Nat.le_refl _) rfl (by omega) (u64N_lt _) (by simp))
  have HAL := hide (fun (W : World) (v : Value) (l : List UInt8) (many n c : Nat) (A : Option Addr) (ns : List Int) (ho : Own W w0.heap.size 5 1 e8 v l) (hE : Ext w0 W) (ha : At W 1 e64 A n c ns) (hlo : 0 < n → ∀ a, A = some a → some a.block ≠ v.ownBlock) (h1 : many ≤ 1000000) (h2 : n ≤ 1000000) (h3 : l.length ≤ 100000000) => (appendList_any ho hE.size ha hlo h1 h2 h3).mono (R' := fun e w' => ∃ v', e = .returned v' ∧ Own w' w0.heap.size 5 1 e8 v' (l ++ liB many ns) ∧ Ext w0 w') (fun e w' ⟨v', he, ho', hg⟩ => ⟨v', he, ho', Own.below ho hE hg.grown (Nat.le_refl _)⟩))
  go_wp2_with fail
  with_reducible refine HA0.out.mono ?_
  rintro e w1 ⟨v1, rfl, o1, g1⟩
  rw [List.nil_append] at o1
  have O1 := hide o1
  have E1 : Hid (Ext w0 w1) := hide (Own.below (Own.nil w0 w0.heap.size 5 1 e8) (Ext.refl _) g1.grown (Nat.le_refl _))
  clear o1 g1 HA0 x0 u0
  have HRN1 := hide (fun (W : World) (hW : Ext w0 W) => runNumbers_any (HH.out.steps.ext (Ext.trans F0.out hW)) (by omega))
  have x1 : w1.cell? ⟨w.heap.size, 1, none⟩ = some (.slice sA sn sc) := (Y0.out.ext E1.out).cell 1
  have z1 : w0.cell? ⟨w.heap.size, 1, none⟩ = some (.slice sA sn sc) := Y0.out.cell 1
  have HLL : Hid ((beN 8 (u64N st)).length ≤ 100000000) := hide (by have := HQ.out; first | (simp only [List.length_append]; omega) | omega)
  have HRL : Hid (∀ g, v1.ownBlock = some g → g < w1.heap.size) := hide (fun g hg => (O1.out.lt g hg).2)
  go_upto_region 2 with (fail)
  go_region_held3 (fun w' => w'.cell? ⟨w.heap.size, 1, none⟩ = some (.slice sA sn sc)) (first | go_keep | exact EA.cell x1 | exact EB.cell z1) (first
    | ((go_at_call 79; with_reducible refine (HRN1.out _ (Ext.trans E1.out (Ext.drew _))).mono ?_); rintro e wa ⟨R, rk, rc, rfl, ra, re, rl⟩; have EA : Ext w1 wa := Ext.trans (Ext.drew _) re; have RA := hide ra; have RL := hide rl; have RK : Hid (rk ≤ 1000000) := hide (by have h9 := ra.len; rw [rnN_len, HH.out.steps.len] at h9; omega); clear ra re rl)
    | ((go_at_call 78; with_reducible refine (HAL.out _ _ _ sn _ _ _ _ (O1.out.ext EA) (Ext.trans E1.out EA) RA.out (fun _ a ha e => by have h8 := HRL.out _ e.symm; have h9 := RL.out a ha; exact absurd (Nat.lt_of_lt_of_le h8 h9) (Nat.lt_irrefl _)) (by omega) RK.out HLL.out).mono ?_); rintro e w2 ⟨v2, rfl, o2, EB⟩))
  all_goals
    have O2 := hide o2
    have E2 : Hid (Ext w0 w2) := hide EB
    clear o2 EB EA RA RL RK x1 z1 HRN1 HLL HRL O1 E1
  have HRN2 := hide (fun (W : World) (hW : Ext w0 W) => runNumbers_any (HH.out.shifts.ext (Ext.trans F0.out hW)) (by omega))
  have x2 : w2.cell? ⟨w.heap.size, 2, none⟩ = some (.slice hA hn hc) := (Y0.out.ext E2.out).cell 2
  have z2 : w0.cell? ⟨w.heap.size, 2, none⟩ = some (.slice hA hn hc) := Y0.out.cell 2
  have HLL : Hid ((beN 8 (u64N st) ++ liB sn (rnN S)).length ≤ 100000000) := hide (by have := HQ.out; first | (simp only [List.length_append]; omega) | omega)
  have HRL : Hid (∀ g, v2.ownBlock = some g → g < w2.heap.size) := hide (fun g hg => (O2.out.lt g hg).2)
  go_upto_region 3 with (fail)
  go_region_held3 (fun w' => w'.cell? ⟨w.heap.size, 2, none⟩ = some (.slice hA hn hc)) (first | go_keep | exact EA.cell x2 | exact EB.cell z2) (first
    | ((go_at_call 79; with_reducible refine (HRN2.out _ (Ext.trans E2.out (Ext.drew _))).mono ?_); rintro e wa ⟨R, rk, rc, rfl, ra, re, rl⟩; have EA : Ext w2 wa := Ext.trans (Ext.drew _) re; have RA := hide ra; have RL := hide rl; have RK : Hid (rk ≤ 1000000) := hide (by have h9 := ra.len; rw [rnN_len, HH.out.shifts.len] at h9; omega); clear ra re rl)
    | ((go_at_call 78; with_reducible refine (HAL.out _ _ _ hn _ _ _ _ (O2.out.ext EA) (Ext.trans E2.out EA) RA.out (fun _ a ha e => by have h8 := HRL.out _ e.symm; have h9 := RL.out a ha; exact absurd (Nat.lt_of_lt_of_le h8 h9) (Nat.lt_irrefl _)) (by omega) RK.out HLL.out).mono ?_); rintro e w3 ⟨v3, rfl, o3, EB⟩))
  all_goals
    have O3 := hide o3
    have E3 : Hid (Ext w0 w3) := hide EB
    clear o3 EB EA RA RL RK x2 z2 HRN2 HLL HRL O2 E2
  have x3 : w3.cell? ⟨w.heap.size, 3, none⟩ = some (.slice zA zn zc) := (Y0.out.ext E3.out).cell 3
  have HLL : Hid ((beN 8 (u64N st) ++ liB sn (rnN S) ++ liB hn (rnN SH)).length ≤ 100000000) := hide (by have := HQ.out; first | (simp only [List.length_append]; omega) | omega)
  have HA4 := hide (HAL.out _ _ _ zn _ _ _ _ O3.out E3.out (HH.out.sizes.ext (Ext.trans F0.out E3.out)) (fun hz0 a ha e => by have h8 := (O3.out.lt _ e.symm).1; have h9 := HLT.out _ _ _ _ _ _ _ HH.out.sizes len_e64 (by omega) hz0 a ha; omega) (by omega) (by omega) HLL.out)
  go_wp2_with fail
  with_reducible refine HA4.out.mono ?_
  rintro e w4 ⟨v4, rfl, o4, E4_⟩
  have O4 := hide o4
  have E4 : Hid (Ext w0 w4) := hide E4_
  clear o4 E4_ HA4 x3 HLL O3 E3
  have x4 : w4.cell? ⟨w.heap.size, 4, none⟩ = some (.slice kA kn kc) := (Y0.out.ext E4.out).cell 4
  have y4 : w0.cell? ⟨w.heap.size, 4, none⟩ = some (.slice kA kn kc) := Y0.out.cell 4
  have HLL : Hid ((beN 8 (u64N st) ++ liB sn (rnN S) ++ liB hn (rnN SH) ++ liB zn Z).length ≤ 1000000) := hide (by have := HQ.out; first | (simp only [List.length_append]; omega) | omega)
  obtain ⟨i0_, hi0, hz0, hz1, hz2⟩ := info_parts Try.info5
  obtain ⟨j0_, hj0, hy0, hy1, hy2⟩ := info_parts Try.info3
  have S1 : Hid ((beN 8 (u64N st) ++ liB sn (rnN S) ++ liB hn (rnN SH) ++ liB zn Z).length + 1 ≤ maxLen) := hide (by have := HLL.out; unfold maxLen; omega)
  have S2 : Hid (((beN 8 (u64N st) ++ liB sn (rnN S) ++ liB hn (rnN SH) ++ liB zn Z).length + 1) * 1 ≤ 140737488355328) := hide (by have := HLL.out; omega)
  have hsz4 := E4.out.size
  generalize hl4 : (beN 8 (u64N st) ++ liB sn (rnN S) ++ liB hn (rnN SH) ++ liB zn Z) = l4 at *
  have HL4 := hide hl4
  clear hl4
  go_upto_if 36 with (fail)
  go_cut [3] (fun s3 wx => Hid (Own wx w0.heap.size 5 1 e8 s3 (l4 ++ keyB nok K)) ∧ Hid (Ext w0 wx))
  case first =>
    cases hk : nok with
    | true =>
      have hkA : kA = none := HNK.out.2 hk
      have dk : kA.isNone = true := by rw [hkA]; rfl
      have HKB : Hid (keyB nok K = [0]) := hide (by rw [hk]; rfl)
      rw [dk]
      have S3 : Hid (w0.heap.size ≤ (w4.alloc (.cells #[.int .u8 0] 5)).heap.size) := hide (by rw [World.size_alloc]; omega)
      clear hkA hk
      go_wp2_with (at_builtin; refine wpList_append_at _ rfl (.tmp 37) (.tmp 38) 22 rfl w0.heap.size 5 i0_ _ 1 Try.underlying22 hi0 hz0 hz1 hz2 rfl (by omega) len_e8 one_e8 _ _ (by rfl) (O4.out.ext (Ext.alloc _ _)) (some ⟨w4.heap.size, 0, none⟩) 1 1 [0] (by rfl) (At.new1 w4 0 _ rfl _) S1.out S2.out S3.out ?_; intro v7 w7 o7 g7 _ _; have O7 := hide o7; have E7 : Hid (Ext w0 w7) := hide (Own.below (O4.out.ext (Ext.alloc _ _)) (Ext.trans E4.out (Ext.alloc _ _)) g7 (Nat.le_refl _)); clear o7 g7)
      go_meet
      exact ⟨hide (by rw [HKB.out]; exact O7.out), E7⟩
    | false =>
      have hkA : ¬ kA = none := fun e => by have := HNK.out.1 e; rw [hk] at this; cases this
      have dk : kA.isNone = false := by cases kA with
        | none => exact absurd rfl hkA
        | some a => rfl
      have HKB : Hid (keyB nok K = [1] ++ liB kn K) := hide (by rw [hk]; unfold keyB; rw [if_neg (by simp), HLK.out])
      rw [dk]
      have S3 : Hid (w0.heap.size ≤ (w4.alloc (.cells #[.int .u8 1] 5)).heap.size) := hide (by rw [World.size_alloc]; omega)
      clear hkA hk
      go_wp2_with fail
      go_region_held3 (fun w' => w'.cell? ⟨w.heap.size, 4, none⟩ = some (.slice kA kn kc)) (first | go_keep | exact (Ext.alloc _ _).cell x4 | exact E7.cell y4 | exact EB.cell y4 | exact E4.out.cell y4 | exact (Ext.trans E4.out (by first | exact Ext.trans (Ext.drew _) (Ext.alloc _ _) | exact Ext.trans (Ext.alloc _ _) (Ext.drew _))).cell y4) (first
        | ((refine step_append_at rfl (.tmp 40) (.tmp 41) 22 rfl w0.heap.size 5 i0_ _ 1 Try.underlying22 hi0 hz0 hz1 hz2 rfl (by omega) len_e8 one_e8 _ _ (by simp [Act.eval]) (O4.out.ext (Ext.trans (Ext.drew _) (Ext.alloc _ _))) (some ⟨w4.drew.heap.size, 0, none⟩) 1 1 [1] (by simp [Act.eval]) (At.new1 w4.drew 1 _ rfl _) S1.out S2.out S3.out ?_); intro v7 w7 o7 g7 _ _; have O7 := hide o7; have E7 : Ext w0 w7 := Own.below (O4.out.ext (Ext.trans (Ext.drew _) (Ext.alloc _ _))) (Ext.trans E4.out (Ext.trans (Ext.drew _) (Ext.alloc _ _))) g7 (Nat.le_refl _); clear o7 g7)
        | ((go_at_call 78; with_reducible refine (HAL.out _ _ _ kn _ _ _ _ O7.out E7 (HH.out.keys.ext (Ext.trans F0.out E7)) (fun hz0 a ha e => by have h8 := (O7.out.lt _ e.symm).1; have h9 := HLT.out _ _ _ _ _ _ _ HH.out.keys len_e64 (by omega) hz0 a ha; omega) (by omega) (by omega) (by have := HLL.out; rw [List.length_append]; simp; omega)).mono ?_); rintro e w8 ⟨v8, rfl, o8, EB⟩))
      all_goals
        have O8 := hide o8
        have E8 : Hid (Ext w0 w8) := hide EB
        clear o8 EB
        go_wp2_with fail
        go_meet
        exact ⟨hide (by rw [HKB.out, ← List.append_assoc]; exact O8.out), E8⟩
  case rest =>
  obtain ⟨O5, E5⟩ := hcut
  obtain ⟨w5, hw5⟩ : ∃ w5, w5 = wc := ⟨_, rfl⟩
  subst hw5
  clear O4 E4 x4 y4 S1 S2 e1 hi0 hz0 hz1 hz2
  have HL5 : Hid ((l4 ++ keyB nok K).length ≤ 10000000) := hide (by have h9 := HQ.out.2.2.2.2.1; have := HLL.out; rw [List.length_append]; omega)
  clear HLL hsz4
  generalize hl5 : l4 ++ keyB nok K = l5 at *
  have HLE5 := hide hl5
  clear hl5
  have x5 : w5.cell? ⟨w.heap.size, 5, none⟩ = some (.slice cA cn cc) := (Y0.out.ext E5.out).cell 5
  go_wp2_with fail
  go_loopw [4, 52] (fun r4 ri wr => ∃ k : Nat, k ≤ cn ∧ ri = .int .i64 k ∧ Hid (Own wr w5.heap.size 3 1 e64 r4 (rnN (C.take k))) ∧ Hid (Ext w5 wr)) (fun _ ri _ => cn - (intOf ri).toNat)
  case atStart => exact ⟨0, by omega, rfl, hide (by simpa [rnN] using Own.nil _ _ _ _ _), hide (Ext.refl _)⟩
  case round =>
    obtain ⟨k, hk, rfl, HO, HX⟩ := hrel
    have HXW := hide (Ext.trans F0.out (Ext.trans E5.out HX.out))
    by_cases hlt : k < cn
    · obtain ⟨b, off, rfl, _⟩ := HH.out.chunks.addr (by omega)
      obtain ⟨a0, a1⟩ := (HH.out.chunks.ext HXW.out).pair hlt
      simp only at a0 a1
      have HSU : Hid (rnN (C.take (k + 1)) = rnN (C.take k) ++ [(C.getD k (0, 0)).1, (C.getD k (0, 0)).2]) := hide (rnN_take (by have := HLC.out; omega))
      generalize (C.getD k (0, 0)).1 = x at *
      generalize (C.getD k (0, 0)).2 = y at *
      have hlk : (rnN (C.take k)).length = 2 * k := by rw [rnN_len, List.length_take]; have := HLC.out; omega
      have i1 : (k : Int) < (cn : Int) := by omega
      have i0 : (0 : Int) ≤ (k : Int) := by omega
      have i8 : IntKind.i64.wrap ((k : Int) + 1) = (k : Int) + 1 := by rw [IntKind.wrap_i64]; omega
      have S1 : Hid ((rnN (C.take k)).length + 2 ≤ maxLen) := hide (by rw [hlk]; unfold maxLen; omega)
      have S2 : Hid (((rnN (C.take k)).length + 2) * 8 ≤ 140737488355328) := hide (by rw [hlk]; omega)
      clear hlk
      go_upto_region 12 with (fail)
      refine gen_wpC fun w6 h6 => ?_
      have F6 : Hid (Ext wr w6) := hide (by rw [h6]; exact Ext.alloc _ _)
      have y0 : w6.cell? ⟨wr.heap.size, 0, none⟩ = some (.int .i64 x) := by rw [h6]; exact (Blk.new wr _ _).cell 0
      have y1 : w6.cell? ⟨wr.heap.size, 1, none⟩ = some (.int .i64 y) := by rw [h6]; exact (Blk.new wr _ _).cell 1
      have S3 : Hid (w5.heap.size ≤ (w6.alloc (.cells #[.int .i64 x, .int .i64 y] 3)).heap.size) := hide (by have := (Ext.trans HX.out F6.out).size; rw [World.size_alloc]; omega)
      clear h6 a0 a1
      go_wp2_with (at_builtin; refine wpList_append_at _ rfl (.tmp 56) (.tmp 61) 34 rfl w5.heap.size 3 j0_ _ 8 Try.underlying34 hj0 hy0 hy1 hy2 rfl (by omega) len_e64 one_e64 _ _ (by rfl) (HO.out.ext (Ext.trans F6.out (Ext.alloc _ _))) (some ⟨w6.heap.size, 0, none⟩) 2 2 [x, y] (by rfl) (At.newI2 w6 x y _) S1.out S2.out S3.out ?_; intro v7 w7 o7 g7 _ _; have O7 := hide o7; have G7 := hide g7; clear o7 g7)
      have E7 : Hid (Ext w5 w7) := hide (Own.below (HO.out.ext (Ext.trans F6.out (Ext.alloc _ _))) (Ext.trans HX.out (Ext.trans F6.out (Ext.alloc _ _))) G7.out (Nat.le_refl _))
      exact ⟨⟨k + 1, by omega, by go_num, hide (by rw [HSU.out]; exact O7.out), E7⟩, by simp [intOf]; omega⟩
    · obtain rfl : k = cn := by omega
      obtain ⟨vA, vc, hv, hat⟩ := HO.out.at_ len_e64
      have hln : (rnN (C.take k)).length = 2 * k := by rw [rnN_len, List.length_take]; have := HLC.out; omega
      have HTK : Hid (C.take k = C) := hide (List.take_of_length_le (by have := HLC.out; omega))
      have HAT := hide hat
      have HLO := HO.out.lt
      subst hv
      have EW := hide (Ext.trans E5.out HX.out)
      have HRL : Hid (∀ g, u3.ownBlock = some g → g < w5.heap.size) := hide (fun g hg => (O5.out.lt g hg).2)
      have x5 : wr.cell? ⟨w.heap.size, 5, none⟩ = some (.slice cA k cc) := (Y0.out.ext EW.out).cell 5
      have HA5 := hide (HAL.out _ _ _ k _ _ _ _ (O5.out.ext HX.out) EW.out HAT.out (fun _ a ha e => by subst ha; have h8 := HRL.out _ e.symm; have h9 := (HLO a.block rfl).1; omega) (by omega) (by omega) (by have := HL5.out; omega))
      clear hlt hat hln
      go_wp2_with fail
      with_reducible refine HA5.out.mono ?_
      rintro e w6 ⟨v6, rfl, o6, E6_⟩
      rw [HTK.out] at o6
      have O6 := hide o6
      have E6 : Hid (Ext w0 w6) := hide E6_
      clear o6 E6_ HA5 x5
      have x6 : w6.cell? ⟨w.heap.size, 6, none⟩ = some (.slice pA pn pc) := (Y0.out.ext E6.out).cell 6
      have HA6 := hide (HAL.out _ _ _ pn _ _ _ _ O6.out E6.out (HH.out.places.ext (Ext.trans F0.out E6.out)) (fun hz0 a ha e => by have h8 := (O6.out.lt _ e.symm).1; have h9 := HLT.out _ _ _ _ _ _ _ HH.out.places len_e64 (by omega) hz0 a ha; omega) (by omega) (by omega) (by have := HL5.out; have h9 := HQ.out.2.2.2.2.2; rw [List.length_append]; omega))
      go_wp2_with fail
      with_reducible refine HA6.out.mono ?_
      rintro e w7 ⟨v7, rfl, o7, E7_⟩
      have E7 : Hid (Ext w0 w7) := hide E7_
      obtain ⟨A7, c7, hv7, _⟩ := o7.at_ len_e8
      subst hv7
      have O7 := hide o7
      clear o7 E7_ HA6 x6
      go_wp2_with fail
      go_ret
      refine ⟨_, _, _, rfl, ?_, Ext.trans F0.out E7.out⟩
      rw [HTB.out, ← hs0]
      have h9 := O7.out
      rw [show (l5 ++ liB k (rnN C) ++ liB pn P).length = l5.length + ((liB k (rnN C)).length + (liB pn P).length) from by simp only [List.length_append]; omega] at h9
      exact h9
end Go.Proofs.Ytccmbokodifdoaa
namespace Go.Proofs.Ytccmbokodifdoaa
open Go.RowKit
/-- What TableBytes gives. -/
def tbL (t : Tab) : List UInt8 := if tabF t = 0 then tabBy t else []
set_option linter.unusedVariables false in
set_option maxRecDepth 100000 in
set_option maxHeartbeats 4000000 in
theorem keyTabBytes_any {sA : Option Addr} {sn sc : Nat} {hA : Option Addr} {hn hc : Nat} {zA : Option Addr} {zn zc : Nat} {kA : Option Addr} {kn kc : Nat} {cA : Option Addr} {cn cc : Nat} {pA : Option Addr} {pn pc : Nat} {t : Tab} {w : World} (h : TabAt w sA sn sc hA hn hc zA zn zc kA kn kc cA cn cc pA pn pc t) (hz : TabSz sn hn zn kn cn pn) :
    Calls Try.prog 25 #[.agg #[.int .i64 t.start, .slice sA sn sc, .slice hA hn hc, .slice zA zn zc, .slice kA kn kc, .slice cA cn cc, .slice pA pn pc]] w (Gives 1 e8 w (tbL t) (tabF t)) := by
  have E0 := hide (Ext.alloc w (.cells #[.int .i64 t.start, .slice sA sn sc, .slice hA hn hc, .slice zA zn zc, .slice kA kn kc, .slice cA cn cc, .slice pA pn pc] 38))
  have X0 := hide (Blk.new w 38 #[.int .i64 t.start, .slice sA sn sc, .slice hA hn hc, .slice zA zn zc, .slice kA kn kc, .slice cA cn cc, .slice pA pn pc])
  have HC := hide (checkTable_any (h.ext E0.out) rfl hz)
  have HIN := hide (fun (hf : tabF t = 0) (W : World) (hW : Ext w W) => tableBytes_in (h.ext hW) rfl (by
    have hr := tab_few (tab_right hf)
    have l1 := h.steps.len
    have l2 := h.shifts.len
    have l3 := h.sizes.len
    have l4 := h.keys.len
    have l5 := h.chunks.len
    have l6 := h.places.len
    exact ⟨by omega, by omega, by omega, by omega, by omega, by omega⟩))
  have HTL : Hid (tbL t = if tabF t = 0 then tabBy t else []) := hide rfl
  clear h
  by_cases hf : tabF t = 0
  · have HI := hide (HIN.out hf)
    have HV : Hid (tbL t = tabBy t) := hide (by rw [HTL.out, if_pos hf])
    have HF0 := hide hf
    rw [hf] at HC
    clear hf HIN HTL
    go_enter Try.func25, Try.ntmps25
    go_wp2_with fail
    with_reducible refine HC.out.mono ?_
    rintro e w1 ⟨rfl, e1⟩
    have E1 := hide (Ext.trans E0.out e1)
    have X1 := hide (X0.out.ext e1)
    clear e1
    have x0 : w1.cell? ⟨w.heap.size, 0, none⟩ = some (.int .i64 t.start) := X1.out.cell 0
    have x1 : w1.cell? ⟨w.heap.size, 1, none⟩ = some (.slice sA sn sc) := X1.out.cell 1
    have x2 : w1.cell? ⟨w.heap.size, 2, none⟩ = some (.slice hA hn hc) := X1.out.cell 2
    have x3 : w1.cell? ⟨w.heap.size, 3, none⟩ = some (.slice zA zn zc) := X1.out.cell 3
    have x4 : w1.cell? ⟨w.heap.size, 4, none⟩ = some (.slice kA kn kc) := X1.out.cell 4
    have x5 : w1.cell? ⟨w.heap.size, 5, none⟩ = some (.slice cA cn cc) := X1.out.cell 5
    have x6 : w1.cell? ⟨w.heap.size, 6, none⟩ = some (.slice pA pn pc) := X1.out.cell 6
    go_wp2_with fail
    with_reducible refine (HI.out _ E1.out).mono ?_
    rintro e w2 ⟨T, k, tc, rfl, o2, e2⟩
    have E2 := hide (Ext.trans E1.out e2)
    have A2 := hide (o2.atS len_e8)
    clear o2 e2
    go_wp2_with fail
    go_ret2
    rw [HF0.out, HV.out]
    exact ⟨_, _, _, rfl, A2.out, E2.out⟩
  · have HV : Hid (tbL t = []) := hide (by rw [HTL.out, if_neg hf])
    have HF0 := hide hf
    have d0 : (tabF t != 0) = true := by simp [hf]
    clear hf HIN HTL
    go_enter Try.func25, Try.ntmps25
    go_wp2_with fail
    with_reducible refine HC.out.mono ?_
    rintro e w1 ⟨rfl, e1⟩
    have E1 := hide (Ext.trans E0.out e1)
    clear e1
    go_wp2_with fail
    go_ret2
    rw [HV.out]
    exact gives_nil _ E1.out
end Go.Proofs.Ytccmbokodifdoaa

namespace Go.Proofs.Ytccmbokodifdoaa
open Go.RowKit
set_option maxHeartbeats 1000000 in
/-- Two slices that read as one list. -/
theorem intsEq_true {A1 A2 : Option Addr} {n1 c1 n2 c2 : Nat} {l : List Int} {w : World} (h1 : At w 1 e64 A1 n1 c1 l) (h2 : At w 1 e64 A2 n2 c2 l) :
    Calls Try.prog 45 #[.slice A1 n1 c1, .slice A2 n2 c2] w fun e w' => e = .returned (.bool true) ∧ Ext w w' := by
  obtain rfl : n1 = n2 := h1.len.symm.trans h2.len
  have hb := h1.bound
  have H1 := hide h1; have H2 := hide h2
  clear h1 h2
  go_enter Try.func45, Try.ntmps45
  go_wp2_with fail
  go_loopw [13] (fun ri wr => ∃ k : Nat, k ≤ n1 ∧ ri = .int .i64 k ∧ Hid (Ext w wr)) (fun i _ => n1 - (intOf i).toNat)
  case atStart => exact ⟨0, by omega, rfl, hide (Ext.refl _)⟩
  case round =>
    obtain ⟨k, hk, rfl, HX⟩ := hrel
    by_cases hlt : k < n1
    · obtain ⟨b, off, rfl, _⟩ := H1.out.addr (by omega)
      obtain ⟨b2, off2, rfl, _⟩ := H2.out.addr (by omega)
      have a1 := (H1.out.ext HX.out).num hlt
      have a2 := (H2.out.ext HX.out).num hlt
      generalize l.getD k 0 = y at *
      have i1 : (k : Int) < (n1 : Int) := by omega
      have i0 : (0 : Int) ≤ (k : Int) := by omega
      go_wp2_with fail
      go_quiet (fail)
      go_wp2
      go_roundw
      case rel => exact ⟨k + 1, by omega, by go_num, below_drewN HX.out _⟩
      case measure => simp [intOf]; omega
    · have hkn : k = n1 := by omega
      clear hkn
      go_wp2
      go_ret
      exact ⟨rfl, HX.out⟩
set_option maxHeartbeats 1000000 in
theorem runsEq_true {A1 A2 : Option Addr} {n1 c1 n2 c2 : Nat} {l : List (Int × Int)} {w : World} (h1 : At w 2 e2 A1 n1 c1 l) (h2 : At w 2 e2 A2 n2 c2 l) :
    Calls Try.prog 44 #[.slice A1 n1 c1, .slice A2 n2 c2] w fun e w' => e = .returned (.bool true) ∧ Ext w w' := by
  obtain rfl : n1 = n2 := h1.len.symm.trans h2.len
  have hb := h1.bound
  have H1 := hide h1; have H2 := hide h2
  clear h1 h2
  go_enter Try.func44, Try.ntmps44
  go_wp2_with fail
  go_loopw [13] (fun ri wr => ∃ k : Nat, k ≤ n1 ∧ ri = .int .i64 k ∧ Hid (Ext w wr)) (fun i _ => n1 - (intOf i).toNat)
  case atStart => exact ⟨0, by omega, rfl, hide (Ext.refl _)⟩
  case round =>
    obtain ⟨k, hk, rfl, HX⟩ := hrel
    by_cases hlt : k < n1
    · obtain ⟨b, off, rfl, _⟩ := H1.out.addr (by omega)
      obtain ⟨b2, off2, rfl, _⟩ := H2.out.addr (by omega)
      obtain ⟨a1, a2⟩ := (H1.out.ext HX.out).pair hlt
      obtain ⟨a3, a4⟩ := (H2.out.ext HX.out).pair hlt
      generalize (l.getD k (0, 0)).1 = y at *
      generalize (l.getD k (0, 0)).2 = z at *
      have i1 : (k : Int) < (n1 : Int) := by omega
      have i0 : (0 : Int) ≤ (k : Int) := by omega
      go_wp2_with fail
      go_quiet (fail)
      go_wp2
      go_roundw
      case rel => exact ⟨k + 1, by omega, by go_num, below_drewN HX.out _⟩
      case measure => simp [intOf]; omega
    · have hkn : k = n1 := by omega
      clear hkn
      go_wp2
      go_ret
      exact ⟨rfl, HX.out⟩
set_option maxHeartbeats 1000000 in
theorem chunksEq_true {A1 A2 : Option Addr} {n1 c1 n2 c2 : Nat} {l : List (Int × Int)} {w : World} (h1 : At w 2 e2 A1 n1 c1 l) (h2 : At w 2 e2 A2 n2 c2 l) :
    Calls Try.prog 46 #[.slice A1 n1 c1, .slice A2 n2 c2] w fun e w' => e = .returned (.bool true) ∧ Ext w w' := by
  obtain rfl : n1 = n2 := h1.len.symm.trans h2.len
  have hb := h1.bound
  have H1 := hide h1; have H2 := hide h2
  clear h1 h2
  go_enter Try.func46, Try.ntmps46
  go_wp2_with fail
  go_loopw [13] (fun ri wr => ∃ k : Nat, k ≤ n1 ∧ ri = .int .i64 k ∧ Hid (Ext w wr)) (fun i _ => n1 - (intOf i).toNat)
  case atStart => exact ⟨0, by omega, rfl, hide (Ext.refl _)⟩
  case round =>
    obtain ⟨k, hk, rfl, HX⟩ := hrel
    by_cases hlt : k < n1
    · obtain ⟨b, off, rfl, _⟩ := H1.out.addr (by omega)
      obtain ⟨b2, off2, rfl, _⟩ := H2.out.addr (by omega)
      obtain ⟨a1, a2⟩ := (H1.out.ext HX.out).pair hlt
      obtain ⟨a3, a4⟩ := (H2.out.ext HX.out).pair hlt
      generalize (l.getD k (0, 0)).1 = y at *
      generalize (l.getD k (0, 0)).2 = z at *
      have i1 : (k : Int) < (n1 : Int) := by omega
      have i0 : (0 : Int) ≤ (k : Int) := by omega
      go_wp2_with fail
      go_quiet (fail)
      go_wp2
      go_roundw
      case rel => exact ⟨k + 1, by omega, by go_num, below_drewN HX.out _⟩
      case measure => simp [intOf]; omega
    · have hkn : k = n1 := by omega
      clear hkn
      go_wp2
      go_ret
      exact ⟨rfl, HX.out⟩
set_option maxHeartbeats 1000000 in
theorem spotsEq_true {A1 A2 : Option Addr} {n1 c1 n2 c2 : Nat} {l : List (Int × Int)} {w : World} (h1 : At w 2 e2 A1 n1 c1 l) (h2 : At w 2 e2 A2 n2 c2 l) :
    Calls Try.prog 29 #[.slice A1 n1 c1, .slice A2 n2 c2] w fun e w' => e = .returned (.bool true) ∧ Ext w w' := by
  obtain rfl : n1 = n2 := h1.len.symm.trans h2.len
  have hb := h1.bound
  have H1 := hide h1; have H2 := hide h2
  clear h1 h2
  go_enter Try.func29, Try.ntmps29
  go_wp2_with fail
  go_loopw [13] (fun ri wr => ∃ k : Nat, k ≤ n1 ∧ ri = .int .i64 k ∧ Hid (Ext w wr)) (fun i _ => n1 - (intOf i).toNat)
  case atStart => exact ⟨0, by omega, rfl, hide (Ext.refl _)⟩
  case round =>
    obtain ⟨k, hk, rfl, HX⟩ := hrel
    by_cases hlt : k < n1
    · obtain ⟨b, off, rfl, _⟩ := H1.out.addr (by omega)
      obtain ⟨b2, off2, rfl, _⟩ := H2.out.addr (by omega)
      obtain ⟨a1, a2⟩ := (H1.out.ext HX.out).pair hlt
      obtain ⟨a3, a4⟩ := (H2.out.ext HX.out).pair hlt
      generalize (l.getD k (0, 0)).1 = y at *
      generalize (l.getD k (0, 0)).2 = z at *
      have i1 : (k : Int) < (n1 : Int) := by omega
      have i0 : (0 : Int) ≤ (k : Int) := by omega
      go_wp2_with fail
      go_quiet (fail)
      go_wp2
      go_roundw
      case rel => exact ⟨k + 1, by omega, by go_num, below_drewN HX.out _⟩
      case measure => simp [intOf]; omega
    · have hkn : k = n1 := by omega
      clear hkn
      go_wp2
      go_ret
      exact ⟨rfl, HX.out⟩
set_option linter.unusedVariables false in
set_option maxRecDepth 100000 in
set_option maxHeartbeats 4000000 in
/-- Two tables that read alike. -/
theorem sameTab_any {v1 v2 : Value} {t : Tab} {w : World} (h1 : TbV w v1 t) (h2 : TbV w v2 t) :
    Calls Try.prog 18 #[v1, v2] w fun e w' => e = .returned (.bool true) ∧ Ext w w' := by
  obtain ⟨sA1, sn1, sc1, hA1, hn1, hc1, zA1, zn1, zc1, kA1, kn1, kc1, cA1, cn1, cc1, pA1, pn1, pc1, rfl, t1⟩ := h1
  obtain ⟨sA2, sn2, sc2, hA2, hn2, hc2, zA2, zn2, zc2, kA2, kn2, kc2, cA2, cn2, cc2, pA2, pn2, pc2, rfl, t2⟩ := h2
  have EA : Hid (Ext w ((w.alloc (.cells #[.int .i64 t.start, .slice sA1 sn1 sc1, .slice hA1 hn1 hc1, .slice zA1 zn1 zc1, .slice kA1 kn1 kc1, .slice cA1 cn1 cc1, .slice pA1 pn1 pc1] 38)).alloc (.cells #[.int .i64 t.start, .slice sA2 sn2 sc2, .slice hA2 hn2 hc2, .slice zA2 zn2 zc2, .slice kA2 kn2 kc2, .slice cA2 cn2 cc2, .slice pA2 pn2 pc2] 38))) := hide (Ext.trans (Ext.alloc _ _) (Ext.alloc _ _))
  have HQ1 := hide (fun (W : World) (hW : Ext w W) => runsEq_true (t1.steps.ext hW) (t2.steps.ext hW))
  have HQ2 := hide (fun (W : World) (hW : Ext w W) => runsEq_true (t1.shifts.ext hW) (t2.shifts.ext hW))
  have HQ3 := hide (fun (W : World) (hW : Ext w W) => intsEq_true (t1.sizes.ext hW) (t2.sizes.ext hW))
  have HQ4 := hide (fun (W : World) (hW : Ext w W) => intsEq_true (t1.keys.ext hW) (t2.keys.ext hW))
  have HQ5 := hide (fun (W : World) (hW : Ext w W) => chunksEq_true (t1.chunks.ext hW) (t2.chunks.ext hW))
  have HQ6 := hide (fun (W : World) (hW : Ext w W) => intsEq_true (t1.places.ext hW) (t2.places.ext hW))
  have hkk : kA1.isNone = kA2.isNone := by
    have h1 := t1.nok
    have h2 := t2.nok
    rw [Bool.eq_iff_iff, Option.isNone_iff_eq_none, Option.isNone_iff_eq_none, h1, h2]
  have e1 := fun (W : World) => Lib.run_eql_slice_nil (P := Try.prog) W 34 3 kA1 kn1 kc1 0 0 Try.underlying34
  have e2 := fun (W : World) => Lib.run_eql_slice_nil (P := Try.prog) W 34 3 kA2 kn2 kc2 0 0 Try.underlying34
  rw [← hkk] at e2
  generalize kA1.isNone = kb at *
  have dk : (kb == kb) = true := by simp
  have dt : (t.start == t.start) = true := by simp
  have X1 := hide ((Blk.new w 38 #[.int .i64 t.start, .slice sA1 sn1 sc1, .slice hA1 hn1 hc1, .slice zA1 zn1 zc1, .slice kA1 kn1 kc1, .slice cA1 cn1 cc1, .slice pA1 pn1 pc1]).alloc (.cells #[.int .i64 t.start, .slice sA2 sn2 sc2, .slice hA2 hn2 hc2, .slice zA2 zn2 zc2, .slice kA2 kn2 kc2, .slice cA2 cn2 cc2, .slice pA2 pn2 pc2] 38))
  have X2 : Hid (Blk ((w.alloc (.cells #[.int .i64 t.start, .slice sA1 sn1 sc1, .slice hA1 hn1 hc1, .slice zA1 zn1 zc1, .slice kA1 kn1 kc1, .slice cA1 cn1 cc1, .slice pA1 pn1 pc1] 38)).alloc (.cells #[.int .i64 t.start, .slice sA2 sn2 sc2, .slice hA2 hn2 hc2, .slice zA2 zn2 zc2, .slice kA2 kn2 kc2, .slice cA2 cn2 cc2, .slice pA2 pn2 pc2] 38)) (w.heap.size + 1) 38 #[.int .i64 t.start, .slice sA2 sn2 sc2, .slice hA2 hn2 hc2, .slice zA2 zn2 zc2, .slice kA2 kn2 kc2, .slice cA2 cn2 cc2, .slice pA2 pn2 pc2]) := hide (by
    have := Blk.new (w.alloc (.cells #[.int .i64 t.start, .slice sA1 sn1 sc1, .slice hA1 hn1 hc1, .slice zA1 zn1 zc1, .slice kA1 kn1 kc1, .slice cA1 cn1 cc1, .slice pA1 pn1 pc1] 38)) 38 #[.int .i64 t.start, .slice sA2 sn2 sc2, .slice hA2 hn2 hc2, .slice zA2 zn2 zc2, .slice kA2 kn2 kc2, .slice cA2 cn2 cc2, .slice pA2 pn2 pc2]
    rw [World.size_alloc] at this
    exact this)
  generalize t.start = st at *
  clear t1 t2 hkk
  go_enter Try.func18, Try.ntmps18
  go_upto_region 1 with (fail)
  refine gen_wpC fun w0 h0 => ?_
  have E0 : Hid (Ext w w0) := hide (by rw [h0]; exact EA.out)
  have Y0 : Hid (Blk w0 w.heap.size 38 #[.int .i64 st, .slice sA1 sn1 sc1, .slice hA1 hn1 hc1, .slice zA1 zn1 zc1, .slice kA1 kn1 kc1, .slice cA1 cn1 cc1, .slice pA1 pn1 pc1]) := hide (by rw [h0]; exact X1.out)
  have Z0 : Hid (Blk w0 (w.heap.size + 1) 38 #[.int .i64 st, .slice sA2 sn2 sc2, .slice hA2 hn2 hc2, .slice zA2 zn2 zc2, .slice kA2 kn2 kc2, .slice cA2 cn2 cc2, .slice pA2 pn2 pc2]) := hide (by rw [h0]; exact X2.out)
  clear h0 EA X1 X2
  have y0 : w0.cell? ⟨w.heap.size, 0, none⟩ = some (.int .i64 st) := Y0.out.cell 0
  have z0 : w0.cell? ⟨w.heap.size + 1, 0, none⟩ = some (.int .i64 st) := Z0.out.cell 0
  have y1 : w0.cell? ⟨w.heap.size, 1, none⟩ = some (.slice sA1 sn1 sc1) := Y0.out.cell 1
  have z1 : w0.cell? ⟨w.heap.size + 1, 1, none⟩ = some (.slice sA2 sn2 sc2) := Z0.out.cell 1
  go_wp2_with fail
  with_reducible refine (HQ1.out _ E0.out).mono ?_
  rintro e w1 ⟨rfl, e1_⟩
  have Y1 := hide (Y0.out.ext e1_)
  have Z1 := hide (Z0.out.ext e1_)
  have E1 := hide (Ext.trans E0.out e1_)
  clear e1_
  have y2 : w1.cell? ⟨w.heap.size, 2, none⟩ = some (.slice hA1 hn1 hc1) := Y1.out.cell 2
  have z2 : w1.cell? ⟨w.heap.size + 1, 2, none⟩ = some (.slice hA2 hn2 hc2) := Z1.out.cell 2
  go_wp2_with fail
  with_reducible refine (HQ2.out _ E1.out).mono ?_
  rintro e w2 ⟨rfl, e2_⟩
  have Y2 := hide (Y1.out.ext e2_)
  have Z2 := hide (Z1.out.ext e2_)
  have E2 := hide (Ext.trans E1.out e2_)
  clear e2_
  have y3 : w2.cell? ⟨w.heap.size, 3, none⟩ = some (.slice zA1 zn1 zc1) := Y2.out.cell 3
  have z3 : w2.cell? ⟨w.heap.size + 1, 3, none⟩ = some (.slice zA2 zn2 zc2) := Z2.out.cell 3
  go_wp2_with fail
  with_reducible refine (HQ3.out _ E2.out).mono ?_
  rintro e w3 ⟨rfl, e3⟩
  have Y3 := hide (Y2.out.ext e3)
  have Z3 := hide (Z2.out.ext e3)
  have E3 := hide (Ext.trans E2.out e3)
  clear e3
  have y4 : w3.cell? ⟨w.heap.size, 4, none⟩ = some (.slice kA1 kn1 kc1) := Y3.out.cell 4
  have z4 : w3.cell? ⟨w.heap.size + 1, 4, none⟩ = some (.slice kA2 kn2 kc2) := Z3.out.cell 4
  go_wp2_with fail
  with_reducible refine (HQ4.out _ E3.out).mono ?_
  rintro e w4 ⟨rfl, e4⟩
  have Y4 := hide (Y3.out.ext e4)
  have Z4 := hide (Z3.out.ext e4)
  have E4 := hide (Ext.trans E3.out e4)
  clear e4
  have y5 : w4.cell? ⟨w.heap.size, 5, none⟩ = some (.slice cA1 cn1 cc1) := Y4.out.cell 5
  have z5 : w4.cell? ⟨w.heap.size + 1, 5, none⟩ = some (.slice cA2 cn2 cc2) := Z4.out.cell 5
  go_wp2_with fail
  with_reducible refine (HQ5.out _ E4.out).mono ?_
  rintro e w5 ⟨rfl, e5⟩
  have Y5 := hide (Y4.out.ext e5)
  have Z5 := hide (Z4.out.ext e5)
  have E5 := hide (Ext.trans E4.out e5)
  clear e5
  have y6 : w5.cell? ⟨w.heap.size, 6, none⟩ = some (.slice pA1 pn1 pc1) := Y5.out.cell 6
  have z6 : w5.cell? ⟨w.heap.size + 1, 6, none⟩ = some (.slice pA2 pn2 pc2) := Z5.out.cell 6
  go_wp2_with fail
  with_reducible refine (HQ6.out _ E5.out).mono ?_
  rintro e w6 ⟨rfl, e6⟩
  have Y6 := hide (Y5.out.ext e6)
  have Z6 := hide (Z5.out.ext e6)
  have E6 := hide (Ext.trans E5.out e6)
  clear e6
  go_wp2_with fail
  go_ret
  exact ⟨rfl, E6.out⟩
end Go.Proofs.Ytccmbokodifdoaa
namespace Go.Proofs.Ytccmbokodifdoaa
open Go.RowKit
/-- So many bytes lie at a place. -/
def Lies (b : List UInt8) (p : Nat) (l : List UInt8) : Prop := (b.drop p).take l.length = l ∧ p + l.length ≤ b.length
theorem lies_app {b l m : List UInt8} {p : Nat} : Lies b p (l ++ m) ↔ Lies b p l ∧ Lies b (p + l.length) m := by
  unfold Lies
  rw [List.length_append]
  constructor
  · rintro ⟨h1, h2⟩
    have h3 := congrArg (List.take l.length) h1
    have h4 := congrArg (List.drop l.length) h1
    rw [List.take_take, show min l.length (l.length + m.length) = l.length by omega, List.take_left' rfl] at h3
    rw [List.drop_take, List.drop_drop, List.drop_left' rfl, show l.length + m.length - l.length = m.length by omega] at h4
    exact ⟨⟨h3, by omega⟩, h4, by omega⟩
  · rintro ⟨⟨h1, h2⟩, h3, h4⟩
    refine ⟨?_, by omega⟩
    rw [List.take_add, h1, List.drop_drop, h3]
theorem lies_all (b : List UInt8) : Lies b 0 b := ⟨by simp, by simp⟩
theorem lies_cut {b l : List UInt8} {p k : Nat} (h : Lies b p l) (hl : l.length = k) : cutB b p (p + k) = l := by
  unfold cutB; rw [show p + k - p = l.length by omega]; exact h.1
theorem rd_lies {b l : List UInt8} {p k : Nat} (h : Lies b p l) (hl : l.length = k) : rdN b k ⟨p, false⟩ = (numB l, ⟨p + k, false⟩) := by
  have h2 := h.2
  rw [rdN_ok rfl (by show k ≤ b.length - p; omega), lies_cut h hl]
theorem wrap_u64N {x : Int} (h : -9223372036854775808 ≤ x ∧ x ≤ 9223372036854775807) : IntKind.i64.wrap ((u64N x : Nat) : Int) = x := by
  rw [u64N_cast, IntKind.wrap_u64, IntKind.wrap_i64]; omega
/-- Numbers of eight bytes are read. -/
theorem nm_lies {b : List UInt8} {l : List Int} (hb : ∀ i, i < l.length → -9223372036854775808 ≤ l.getD i 0 ∧ l.getD i 0 ≤ 9223372036854775807) {p : Nat} (h : Lies b p (lsB l)) : ∀ k, k ≤ l.length → nmL b ⟨p, false⟩ k = (l.take k, ⟨p + 8 * k, false⟩)
  | 0, _ => by simp [nmL]
  | k + 1, hk => by
    have ih := nm_lies hb h k (by omega)
    have hk2 : k < l.length := by omega
    have e : lsB l = lsB (l.take k) ++ beN 8 (u64N (l.getD k 0)) ++ lsB (l.drop (k + 1)) := by
      rw [← lsB_take hk2]
      unfold lsB
      rw [← List.flatMap_append, List.take_append_drop]
    rw [e] at h
    have h1 := (lies_app.1 (lies_app.1 h).1).2
    rw [lsB_len, List.length_take, show min k l.length = k by omega] at h1
    have h2 := rd_lies h1 (beN_len 8 _)
    rw [nmL, ih]
    show (l.take k ++ [IntKind.i64.wrap ((rdN b 8 ⟨p + 8 * k, false⟩).1 : Int)], (rdN b 8 ⟨p + 8 * k, false⟩).2) = _
    rw [h2, beN_numB 8 _ (u64N_lt _)]
    show (l.take k ++ [IntKind.i64.wrap ((u64N (l.getD k 0) : Nat) : Int)], (⟨p + 8 * k + 8, false⟩ : Rd)) = _
    rw [wrap_u64N (hb k hk2), getD_take l k 0 hk2, show p + 8 * k + 8 = p + 8 * (k + 1) by omega]
/-- A list is read. -/
theorem ls_lies {b : List UInt8} {l : List Int} {many each p : Nat} (hb : ∀ i, i < l.length → -9223372036854775808 ≤ l.getD i 0 ∧ l.getD i 0 ≤ 9223372036854775807) (hm : many * each = l.length) (hml : many < 4294967296) (h : Lies b p (liB many l)) : lsF b each ⟨p, false⟩ = (l, ⟨p + (4 + 8 * l.length), false⟩) := by
  unfold liB at h
  obtain ⟨h1, h2⟩ := lies_app.1 h
  rw [beN_len] at h2
  have h3 := rd_lies h1 (beN_len 4 _)
  rw [beN_numB 4 _ hml] at h3
  have h4 : lsH b each ⟨p, false⟩ = (l.length, ⟨p + 4, false⟩) := by
    unfold lsH
    have h5 := h2.2
    rw [lsB_len] at h5
    rw [h3, if_neg (by simp), if_neg (by show ¬ b.length - (p + 4) < many * each * 8; rw [hm]; omega)]
    rw [hm]
  unfold lsF
  rw [h4]
  show nmL b ⟨p + 4, false⟩ l.length = _
  rw [nm_lies hb h2 _ (Nat.le_refl _), List.take_of_length_le (Nat.le_refl _), show p + 4 + 8 * l.length = p + (4 + 8 * l.length) by omega]
theorem prL_rnN : ∀ l : List (Int × Int), prL (rnN l) = l := by
  intro l
  unfold prL
  rw [rnN_len, show 2 * l.length / 2 = l.length by omega]
  have key : ∀ k, k ≤ l.length → prK (rnN l) k = l.take k := by
    intro k
    induction k with
    | zero => intro _; simp [prK]
    | succ k ih =>
      intro hk
      have hk2 : k < l.length := by omega
      rw [prK_succ, ih (by omega), getD_take l k (0, 0) hk2]
      have e : rnN l = rnN (l.take k) ++ ([(l.getD k (0, 0)).1, (l.getD k (0, 0)).2] ++ rnN (l.drop (k + 1))) := by
        rw [← List.append_assoc, ← rnN_take hk2]
        unfold rnN
        rw [← List.flatMap_append, List.take_append_drop]
      have hl : (rnN (l.take k)).length = 2 * k := by rw [rnN_len, List.length_take]; omega
      have g0 : (rnN l).getD (2 * k) 0 = (l.getD k (0, 0)).1 := by
        rw [e, List.getD_eq_getElem?_getD, List.getElem?_append_right (by omega), hl]; simp
      have g1 : (rnN l).getD (2 * k + 1) 0 = (l.getD k (0, 0)).2 := by
        rw [e, List.getD_eq_getElem?_getD, List.getElem?_append_right (by omega), hl, show 2 * k + 1 - 2 * k = 1 by omega]; simp
      rw [g0, g1]
  rw [key _ (Nat.le_refl _), List.take_of_length_le (Nat.le_refl _)]
theorem rnN_rng {l : List (Int × Int)} {P : Int → Prop} (h : ∀ i, i < l.length → P (l.getD i (0, 0)).1 ∧ P (l.getD i (0, 0)).2) : ∀ i, i < (rnN l).length → P ((rnN l).getD i 0) := by
  intro i hi
  have hm : (rnN l).getD i 0 ∈ rnN l := getD_mem _ _ _ hi
  generalize (rnN l).getD i 0 = x at *
  unfold rnN at hm
  obtain ⟨r, hr, hx⟩ := List.mem_flatMap.1 hm
  obtain ⟨j, hj, e⟩ := mem_getD (0, 0) hr
  have := h j hj
  rw [← e] at this
  simp at hx
  rcases hx with hx | hx
  · rw [hx]; exact this.1
  · rw [hx]; exact this.2
theorem rng64 {x : Int} (h1 : -1000000000000000 ≤ x) (h2 : x ≤ 1000000000000000) : -9223372036854775808 ≤ x ∧ x ≤ 9223372036854775807 := by omega
theorem el_at {l : List Int} {lo hi : Int} (f : List Int → Nat → Int) (hf : ∀ i, f l i = if l.getD i 0 < lo ∨ hi < l.getD i 0 then 1 else 0) (h : firstF (f l) l.length = 0) {i : Nat} (hi' : i < l.length) : lo ≤ l.getD i 0 ∧ l.getD i 0 ≤ hi := by
  have := firstF_all h i hi'
  rw [hf] at this
  by_cases h1 : l.getD i 0 < lo ∨ hi < l.getD i 0
  · rw [if_pos h1] at this; omega
  · omega
/-- A table is read as it was written. -/
theorem tb_read {t : Tab} (h : tabF t = 0) (hk : t.nok = true → t.keys = []) (hlen : (tabBy t).length ≤ 1000000) : rtF (tabBy t) = 0 ∧ rtT (tabBy t) = t ∧ rtA (tabBy t) = 0 := by
  have R := tab_right h
  have hfew := tab_few R
  obtain ⟨b, hb⟩ : ∃ b, b = tabBy t := ⟨_, rfl⟩
  rw [← hb] at hlen ⊢
  have hL := lies_all b
  have e0 : b = beN 8 (u64N t.start) ++ liB t.steps.length (rnN t.steps) ++ liB t.shifts.length (rnN t.shifts) ++ liB t.sizes.length t.sizes ++ keyB t.nok t.keys ++ liB t.chunks.length (rnN t.chunks) ++ liB t.places.length t.places := hb
  have hL2 : Lies b 0 (beN 8 (u64N t.start) ++ liB t.steps.length (rnN t.steps) ++ liB t.shifts.length (rnN t.shifts) ++ liB t.sizes.length t.sizes ++ keyB t.nok t.keys ++ liB t.chunks.length (rnN t.chunks) ++ liB t.places.length t.places) := by rw [← e0]; exact hL
  obtain ⟨hL5, g6⟩ := lies_app.1 hL2
  obtain ⟨hL4, g5⟩ := lies_app.1 hL5
  obtain ⟨hL3, g4⟩ := lies_app.1 hL4
  obtain ⟨hL2', g3⟩ := lies_app.1 hL3
  obtain ⟨hL1, g2⟩ := lies_app.1 hL2'
  obtain ⟨g0, g1⟩ := lies_app.1 hL1
  simp only [List.length_append, beN_len, liB_len, rnN_len, Nat.zero_add] at g1 g2 g3 g4 g5 g6
  have hst := R.start
  unfold noT at hst
  simp only [decide_eq_false_iff_not] at hst
  have c0 : r0F b = (u64N t.start, ⟨8, false⟩) := by
    unfold r0F; rw [rd_lies g0 (beN_len 8 _), beN_numB 8 _ (u64N_lt _)]
  have rg1 := rnN_rng (l := t.steps) (P := fun x => -9223372036854775808 ≤ x ∧ x ≤ 9223372036854775807) (fun i hi => by have := runs_ok R.steps i hi; exact ⟨by omega, by omega⟩)
  have rg2 := rnN_rng (l := t.shifts) (P := fun x => -9223372036854775808 ≤ x ∧ x ≤ 9223372036854775807) (fun i hi => by have := runs_ok R.shifts i hi; exact ⟨by omega, by omega⟩)
  have rg5 := rnN_rng (l := t.chunks) (P := fun x => -9223372036854775808 ≤ x ∧ x ≤ 9223372036854775807) (fun i hi => by have := (ch_ok R.chunks i hi).1; exact ⟨by omega, by omega⟩)
  have rg3 : ∀ i, i < t.sizes.length → -9223372036854775808 ≤ t.sizes.getD i 0 ∧ t.sizes.getD i 0 ≤ 9223372036854775807 := fun i hi => by
    have := el_at (lo := 0) (hi := 100000) szEl (fun _ => rfl) R.sizes hi; omega
  have rg6 : ∀ i, i < t.places.length → -9223372036854775808 ≤ t.places.getD i 0 ∧ t.places.getD i 0 ≤ 9223372036854775807 := fun i hi => by
    have := el_at (lo := 0) (hi := 1000000) plEl (fun _ => rfl) R.places hi; omega
  have rg4 : ∀ i, i < t.keys.length → -9223372036854775808 ≤ t.keys.getD i 0 ∧ t.keys.getD i 0 ≤ 9223372036854775807 := fun i hi => by
    have h1 := key_at R.keys hi
    have h2 := R.few
    omega
  have c1 : r1F b = (rnN t.steps, ⟨8 + (4 + 8 * (2 * t.steps.length)), false⟩) := by
    unfold r1F; rw [c0]
    have := ls_lies (each := 2) rg1 (by rw [rnN_len]; omega) (by omega) g1
    rw [rnN_len] at this; exact this
  have c2 : r2F b = (rnN t.shifts, ⟨8 + (4 + 8 * (2 * t.steps.length)) + (4 + 8 * (2 * t.shifts.length)), false⟩) := by
    unfold r2F; rw [c1]
    have := ls_lies (each := 2) rg2 (by rw [rnN_len]; omega) (by omega) g2
    rw [rnN_len] at this; exact this
  have c3 : r3F b = (t.sizes, ⟨8 + (4 + 8 * (2 * t.steps.length)) + (4 + 8 * (2 * t.shifts.length)) + (4 + 8 * t.sizes.length), false⟩) := by
    unfold r3F; rw [c2]
    exact ls_lies (each := 1) rg3 (by omega) (by omega) g3
  generalize hp3 : 8 + (4 + 8 * (2 * t.steps.length)) + (4 + 8 * (2 * t.shifts.length)) + (4 + 8 * t.sizes.length) = p3 at *
  have c5 : hasK b = !t.nok ∧ r5F b = (t.keys, ⟨p3 + (keyB t.nok t.keys).length, false⟩) := by
    cases hn : t.nok with
    | true =>
      rw [hn] at g4
      have hk0 := hk hn
      have e1 : keyB true t.keys = [0] := rfl
      rw [e1] at g4
      have h1 := rd_lies (k := 1) g4 rfl
      have h2 : r4F b = (0, ⟨p3 + 1, false⟩) := by
        unfold r4F; rw [c3]; unfold rdF
        show (if (rdN b 1 ⟨p3, false⟩).2.bad = false ∧ 1 < (rdN b 1 ⟨p3, false⟩).1 then _ else _) = _
        rw [h1]; rfl
      have h3 : hasK b = false := by unfold hasK; rw [h2]; rfl
      refine ⟨by rw [h3]; rfl, ?_⟩
      unfold r5F; rw [h3, if_neg (by simp), h2, hk0]; rfl
    | false =>
      rw [hn] at g4
      have e1 : keyB false t.keys = [1] ++ liB t.keys.length t.keys := by unfold keyB; rw [if_neg (by simp)]
      rw [e1] at g4
      obtain ⟨g4a, g4b⟩ := lies_app.1 g4
      have h1 := rd_lies (k := 1) g4a rfl
      have h2 : r4F b = (1, ⟨p3 + 1, false⟩) := by
        unfold r4F; rw [c3]; unfold rdF
        show (if (rdN b 1 ⟨p3, false⟩).2.bad = false ∧ 1 < (rdN b 1 ⟨p3, false⟩).1 then _ else _) = _
        rw [h1]; rfl
      have h3 : hasK b = true := by unfold hasK; rw [h2]; rfl
      refine ⟨by rw [h3]; rfl, ?_⟩
      unfold r5F; rw [h3, if_pos rfl, h2, e1]
      have := ls_lies (each := 1) rg4 (by omega) (by omega) g4b
      rw [List.length_append, liB_len]
      show lsF b 1 ⟨p3 + 1, false⟩ = _
      rw [show p3 + (([1] : List UInt8).length + (4 + 8 * t.keys.length)) = p3 + 1 + (4 + 8 * t.keys.length) by simp; omega]
      exact this
  generalize hp5 : p3 + (keyB t.nok t.keys).length = p5 at *
  have c6 : r6F b = (rnN t.chunks, ⟨p5 + (4 + 8 * (2 * t.chunks.length)), false⟩) := by
    unfold r6F; rw [c5.2]
    have := ls_lies (each := 2) rg5 (by rw [rnN_len]; omega) (by omega) g5
    rw [rnN_len] at this; exact this
  have c7 : r7F b = (t.places, ⟨p5 + (4 + 8 * (2 * t.chunks.length)) + (4 + 8 * t.places.length), false⟩) := by
    unfold r7F; rw [c6]
    exact ls_lies (each := 1) rg6 (by omega) (by omega) g6
  have hbl : b.length = p5 + (4 + 8 * (2 * t.chunks.length)) + (4 + 8 * t.places.length) := by
    have := congrArg List.length e0
    simp only [List.length_append, beN_len, liB_len, rnN_len] at this
    omega
  have cE : rtE b = ⟨p5 + (4 + 8 * (2 * t.chunks.length)) + (4 + 8 * t.places.length), false⟩ := by
    unfold rtE; rw [c7]; unfold rdE; rw [if_neg]
    show ¬ (false = false ∧ p5 + (4 + 8 * (2 * t.chunks.length)) + (4 + 8 * t.places.length) < b.length)
    omega
  refine ⟨by unfold rtF; rw [if_neg (by omega), cE, if_neg (by simp)], ?_, by unfold rtA; rw [if_neg (by omega), cE, if_neg (by simp)]⟩
  unfold rtT
  rw [c0, c1, c2, c3, c5.2, c5.1, c6, c7, prL_rnN, prL_rnN, prL_rnN]
  have hs : IntKind.i64.wrap ((u64N t.start : Nat) : Int) = t.start := wrap_u64N (by omega)
  show (⟨IntKind.i64.wrap ((u64N t.start : Nat) : Int), t.steps, t.shifts, t.sizes, t.keys, !(!t.nok), t.chunks, t.places⟩ : Tab) = t
  rw [hs, Bool.not_not]
theorem u64N_wrap {v : Nat} (h : v < 18446744073709551616) : u64N (IntKind.i64.wrap (v : Int)) = v := by
  unfold u64N; rw [IntKind.wrap_i64, IntKind.wrap_u64]; omega
theorem lies_take {b : List UInt8} {p k : Nat} (h : p + k ≤ b.length) : Lies b p (cutB b p (p + k)) := by
  have hl := cutB_len h
  refine ⟨?_, by omega⟩
  rw [hl]; unfold cutB; rw [show p + k - p = k by omega]
theorem lsB_snoc (l : List Int) (x : Int) : lsB (l ++ [x]) = lsB l ++ beN 8 (u64N x) := by unfold lsB; rw [List.flatMap_append]; simp
theorem nm_back {b : List UInt8} {p m : Nat} (h : 8 * m ≤ b.length - p) : ∀ k, k ≤ m → k = 0 ∨ Lies b p (lsB (nmL b ⟨p, false⟩ k).1)
  | 0, _ => .inl rfl
  | k + 1, hk => by
    right
    have hs := nmL_ok h k (by omega)
    rw [nmL, lsB_snoc, hs]
    have h1 : rdN b 8 ⟨p + 8 * k, false⟩ = (numB (cutB b (p + 8 * k) (p + 8 * k + 8)), ⟨p + 8 * k + 8, false⟩) := rdN_ok rfl (by show 8 ≤ b.length - (p + 8 * k); omega)
    have hc : (cutB b (p + 8 * k) (p + 8 * k + 8)).length = 8 := cutB_len (by omega)
    have h2 := numB_lt 8 _ hc
    rw [h1, u64N_wrap (by simpa using h2), numB_beN 8 _ hc]
    have h3 := lies_take (b := b) (p := p + 8 * k) (k := 8) (by omega)
    rcases nm_back h k (by omega) with h4 | h4
    · subst h4
      show Lies b p (lsB [] ++ _)
      unfold lsB
      simpa using h3
    · refine lies_app.2 ⟨h4, ?_⟩
      rw [lsB_len, nmL_len]
      exact h3
theorem ls_back {b : List UInt8} {each : Nat} {s : Rd} (h : (lsF b each s).2.bad = false) :
    s.bad = false ∧ ∃ many, many < 4294967296 ∧ many * each = (lsF b each s).1.length ∧ Lies b s.pos (liB many (lsF b each s).1) ∧ (lsF b each s).2 = ⟨s.pos + (4 + 8 * (lsF b each s).1.length), false⟩ := by
  have hs := lsF_was h
  refine ⟨hs, ?_⟩
  rcases lsH_cases b each s with ⟨h1, h2⟩ | ⟨_, _, h2⟩ | ⟨h1, h3, h2⟩
  · exfalso
    unfold lsF at h; rw [h2] at h
    have h : (rdN b 4 s).2.bad = false := h
    rw [h] at h1; cases h1
  · exfalso
    unfold lsF at h; rw [h2] at h
    cases h
  · obtain ⟨p, bd⟩ := s
    have hs : bd = false := hs
    subst hs
    have h4 : 4 ≤ b.length - p := by
      rcases Nat.lt_or_ge (b.length - p) 4 with h5 | h5
      · rw [rdN_bad (.inr h5)] at h1; cases h1
      · exact h5
    have h5 : rdN b 4 ⟨p, false⟩ = (numB (cutB b p (p + 4)), ⟨p + 4, false⟩) := rdN_ok rfl h4
    have hc : (cutB b p (p + 4)).length = 4 := cutB_len (by omega)
    have hv := numB_lt 4 _ hc
    rw [h5] at h2 h3
    simp only at h2 h3
    have e : lsF b each ⟨p, false⟩ = nmL b ⟨p + 4, false⟩ (numB (cutB b p (p + 4)) * each) := by unfold lsF; rw [h2]
    rw [e, nmL_len]
    refine ⟨numB (cutB b p (p + 4)), by simpa using hv, rfl, ?_, ?_⟩
    · unfold liB
      refine lies_app.2 ⟨by rw [numB_beN 4 _ hc]; exact lies_take (p := p) (k := 4) (by omega), ?_⟩
      rw [beN_len]
      rcases nm_back (b := b) (p := p + 4) (m := numB (cutB b p (p + 4)) * each) (by omega) _ (Nat.le_refl _) with h6 | h6
      · rw [h6]
        show Lies b (p + 4) (lsB [])
        exact ⟨by simp [lsB], by simp [lsB]; omega⟩
      · exact h6
    · rw [nmL_ok (b := b) (p := p + 4) (m := numB (cutB b p (p + 4)) * each) (by omega) _ (Nat.le_refl _)]
      show (⟨p + 4 + 8 * (numB (cutB b p (p + 4)) * each), false⟩ : Rd) = ⟨p + (4 + 8 * (numB (cutB b p (p + 4)) * each)), false⟩
      rw [Nat.add_assoc]
theorem rnN_prL {l : List Int} {m : Nat} (h : m * 2 = l.length) : rnN (prL l) = l ∧ (prL l).length = m := by
  have hm : l.length / 2 = m := by omega
  refine ⟨?_, by unfold prL; rw [prK_len, hm]⟩
  unfold prL
  rw [hm]
  have key : ∀ k, k ≤ m → rnN (prK l k) = l.take (2 * k) := by
    intro k
    induction k with
    | zero => intro _; simp [prK, rnN]
    | succ k ih =>
      intro hk
      rw [prK_succ, show rnN (prK l k ++ [(l.getD (2 * k) 0, l.getD (2 * k + 1) 0)]) = rnN (prK l k) ++ [l.getD (2 * k) 0, l.getD (2 * k + 1) 0] from by unfold rnN; rw [List.flatMap_append]; simp, ih (by omega), show 2 * (k + 1) = 2 * k + 1 + 1 by omega, getD_take l (2 * k + 1) 0 (by omega), getD_take l (2 * k) 0 (by omega), List.append_assoc]
      rfl
  rw [key m (Nat.le_refl _), List.take_of_length_le (by omega)]
set_option maxRecDepth 100000 in
/-- Bytes of a table are written as they were. -/
theorem tb_back {b : List UInt8} (h : rdTF b = 0) : tabBy (rdTV b) = b ∧ tabF (rdTV b) = 0 ∧ rdTV b = rtT b ∧ b.length ≤ 1000000 := by
  have hv : rdTV b = rtT b := by unfold rdTV; rw [if_pos h]
  have hr : rtF b = 0 := by
    unfold rdTF at h
    by_cases h1 : rtF b ≠ 0
    · rw [if_pos h1] at h; exact absurd h h1
    · omega
  have ht : tabF (rtT b) = 0 := by unfold rdTF at h; rw [if_neg (by omega)] at h; exact h
  have hl : b.length ≤ 1000000 ∧ (rtE b).bad = false := by
    unfold rtF at hr
    by_cases h1 : 1000000 < b.length
    · rw [if_pos h1] at hr; omega
    · rw [if_neg h1] at hr
      cases h2 : (rtE b).bad with
      | true => rw [h2, if_pos rfl] at hr; omega
      | false => exact ⟨by omega, rfl⟩
  refine ⟨?_, by rw [hv]; exact ht, hv, hl.1⟩
  rw [hv]
  have hE := hl.2
  have h7 : (r7F b).2.bad = false ∧ ¬ (r7F b).2.pos < b.length := by
    unfold rtE rdE at hE
    by_cases hc : (r7F b).2.bad = false ∧ (r7F b).2.pos < b.length
    · rw [if_pos hc] at hE; cases hE
    · rw [if_neg hc] at hE
      exact ⟨hE, fun h => hc ⟨hE, h⟩⟩
  obtain ⟨b6, m7, q7, n7, l7, e7⟩ := ls_back (s := (r6F b).2) h7.1
  obtain ⟨b5, m6, q6, n6, l6, e6⟩ := ls_back (s := (r5F b).2) b6
  change m7 * 1 = (r7F b).1.length at n7
  change Lies b (r6F b).2.pos (liB m7 (r7F b).1) at l7
  change (r7F b).2 = ⟨(r6F b).2.pos + (4 + 8 * (r7F b).1.length), false⟩ at e7
  change m6 * 2 = (r6F b).1.length at n6
  change Lies b (r5F b).2.pos (liB m6 (r6F b).1) at l6
  change (r6F b).2 = ⟨(r5F b).2.pos + (4 + 8 * (r6F b).1.length), false⟩ at e6
  have h4 : (r3F b).2.bad = false ∧ Lies b (r3F b).2.pos (keyB (!hasK b) (r5F b).1) ∧ (r5F b).2.pos = (r3F b).2.pos + (keyB (!hasK b) (r5F b).1).length := by
    have b4 : (r4F b).2.bad = false := by
      unfold r5F at b5
      split at b5
      · exact lsF_was b5
      · exact b5
    have b3 : (r3F b).2.bad = false := rdF_was b4
    refine ⟨b3, ?_⟩
    obtain ⟨p3, bd3⟩ : ∃ q, q = (r3F b).2 := ⟨_, rfl⟩
    obtain ⟨q3, hq3⟩ : ∃ q, (r3F b).2 = ⟨q, false⟩ := ⟨(r3F b).2.pos, by rw [← b3]⟩
    clear bd3 p3
    have h1 : 1 ≤ b.length - q3 := by
      rcases Nat.lt_or_ge (b.length - q3) 1 with h5 | h5
      · exfalso
        unfold r4F at b4; rw [hq3] at b4
        unfold rdF at b4; rw [rdN_bad (.inr h5)] at b4
        simp at b4
      · exact h5
    have h2 : rdN b 1 ⟨q3, false⟩ = (numB (cutB b q3 (q3 + 1)), ⟨q3 + 1, false⟩) := rdN_ok rfl h1
    have hc : (cutB b q3 (q3 + 1)).length = 1 := cutB_len (by omega)
    have hlt := lies_take (b := b) (p := q3) (k := 1) (by omega)
    obtain ⟨x, hx⟩ : ∃ x, cutB b q3 (q3 + 1) = [x] := by
      match hh : cutB b q3 (q3 + 1), hc with
      | [x], _ => exact ⟨x, rfl⟩
    have hn : numB [x] = x.toNat := by show 0 * 256 + x.toNat = _; omega
    rw [hx, hn] at h2
    rw [hx] at hlt
    have h3 : r4F b = (x.toNat, ⟨q3 + 1, false⟩) := by
      unfold r4F; rw [hq3]; unfold rdF
      by_cases hc2 : (rdN b 1 ⟨q3, false⟩).2.bad = false ∧ 1 < (rdN b 1 ⟨q3, false⟩).1
      · exfalso
        unfold r4F at b4; rw [hq3] at b4; unfold rdF at b4; rw [if_pos hc2] at b4; cases b4
      · rw [if_neg hc2, h2]
    have hle : x.toNat ≤ 1 := by
      have := rdF_le (b := b) (most := 1) (s := (r3F b).2) b4
      change (r4F b).1 ≤ 1 at this
      rw [h3] at this; exact this
    rw [hq3]
    by_cases hx1 : x.toNat = 1
    · have hk : hasK b = true := by unfold hasK; rw [h3]; simp [hx1]
      have h5 : r5F b = lsF b 1 ⟨q3 + 1, false⟩ := by unfold r5F; rw [hk, if_pos rfl, h3]
      have hxe : x = 1 := UInt8.toNat_inj.1 (by rw [hx1]; rfl)
      rw [h5] at b5 ⊢
      obtain ⟨_, m5, q5, n5, l5, e5⟩ := ls_back b5
      have hm5 : m5 = (lsF b 1 ⟨q3 + 1, false⟩).1.length := by omega
      rw [hm5] at l5
      rw [hk, e5]
      have e9 : keyB (!true) (lsF b 1 ⟨q3 + 1, false⟩).1 = [1] ++ liB (lsF b 1 ⟨q3 + 1, false⟩).1.length (lsF b 1 ⟨q3 + 1, false⟩).1 := by unfold keyB; rw [if_neg (by simp)]
      rw [e9]
      refine ⟨lies_app.2 ⟨by rw [← hxe]; exact hlt, l5⟩, ?_⟩
      rw [List.length_append, liB_len]
      show q3 + 1 + _ = q3 + (1 + _)
      omega
    · have hk : hasK b = false := by unfold hasK; rw [h3]; simp [hx1]
      have h5 : r5F b = ([], ⟨q3 + 1, false⟩) := by unfold r5F; rw [hk, if_neg (by simp), h3]
      have hxe : x = 0 := UInt8.toNat_inj.1 (by show x.toNat = 0; omega)
      rw [h5, hk]
      have e9 : keyB (!false) [] = [0] := rfl
      rw [e9]
      exact ⟨by rw [← hxe]; exact hlt, rfl⟩
  obtain ⟨b3, l4, e4⟩ := h4
  obtain ⟨b2, m3, q3, n3, l3, e3⟩ := ls_back (s := (r2F b).2) b3
  obtain ⟨b1, m2, q2, n2, l2, e2_⟩ := ls_back (s := (r1F b).2) b2
  obtain ⟨b0, m1, q1, n1, l1, e1⟩ := ls_back (s := (r0F b).2) b1
  change m3 * 1 = (r3F b).1.length at n3
  change Lies b (r2F b).2.pos (liB m3 (r3F b).1) at l3
  change (r3F b).2 = ⟨(r2F b).2.pos + (4 + 8 * (r3F b).1.length), false⟩ at e3
  change m2 * 2 = (r2F b).1.length at n2
  change Lies b (r1F b).2.pos (liB m2 (r2F b).1) at l2
  change (r2F b).2 = ⟨(r1F b).2.pos + (4 + 8 * (r2F b).1.length), false⟩ at e2_
  change m1 * 2 = (r1F b).1.length at n1
  change Lies b (r0F b).2.pos (liB m1 (r1F b).1) at l1
  change (r1F b).2 = ⟨(r0F b).2.pos + (4 + 8 * (r1F b).1.length), false⟩ at e1
  have h0 : 8 ≤ b.length - 0 := by
    rcases Nat.lt_or_ge (b.length - 0) 8 with h5 | h5
    · exfalso; unfold r0F at b0; rw [rdN_bad (.inr h5)] at b0; cases b0
    · exact h5
  have c0 : r0F b = (numB (cutB b 0 (0 + 8)), ⟨0 + 8, false⟩) := by unfold r0F; exact rdN_ok rfl h0
  have hc0 : (cutB b 0 (0 + 8)).length = 8 := cutB_len (by omega)
  have hst : beN 8 (u64N (rtT b).start) = cutB b 0 (0 + 8) := by
    have h1 := numB_lt 8 _ hc0
    show beN 8 (u64N (IntKind.i64.wrap ((r0F b).1 : Int))) = _
    rw [c0]
    show beN 8 (u64N (IntKind.i64.wrap ((numB (cutB b 0 (0 + 8)) : Nat) : Int))) = _
    rw [u64N_wrap (by simpa using h1), numB_beN 8 _ hc0]
  have p1 := rnN_prL n1
  have p2 := rnN_prL n2
  have p6 := rnN_prL n6
  have hm3 : m3 = (r3F b).1.length := by omega
  have hm7 : m7 = (r7F b).1.length := by omega
  rw [hm3] at l3
  rw [hm7] at l7
  have eqT : tabBy (rtT b) = cutB b 0 (0 + 8) ++ liB m1 (r1F b).1 ++ liB m2 (r2F b).1 ++ liB (r3F b).1.length (r3F b).1 ++ keyB (!hasK b) (r5F b).1 ++ liB m6 (r6F b).1 ++ liB (r7F b).1.length (r7F b).1 := by
    show beN 8 (u64N (rtT b).start) ++ liB (prL (r1F b).1).length (rnN (prL (r1F b).1)) ++ liB (prL (r2F b).1).length (rnN (prL (r2F b).1)) ++ liB (r3F b).1.length (r3F b).1 ++ keyB (!hasK b) (r5F b).1 ++ liB (prL (r6F b).1).length (rnN (prL (r6F b).1)) ++ liB (r7F b).1.length (r7F b).1 = _
    rw [hst, p1.1, p1.2, p2.1, p2.2, p6.1, p6.2]
  have hp0 : (r0F b).2.pos = 8 := by rw [c0]
  have hp1 : (r1F b).2.pos = 8 + (4 + 8 * (r1F b).1.length) := by rw [e1, hp0]
  have hp2 : (r2F b).2.pos = 8 + (4 + 8 * (r1F b).1.length) + (4 + 8 * (r2F b).1.length) := by rw [e2_, hp1]
  have hp3 : (r3F b).2.pos = 8 + (4 + 8 * (r1F b).1.length) + (4 + 8 * (r2F b).1.length) + (4 + 8 * (r3F b).1.length) := by rw [e3, hp2]
  have hp6 : (r6F b).2.pos = (r5F b).2.pos + (4 + 8 * (r6F b).1.length) := by rw [e6]
  have hp7 : (r7F b).2.pos = (r6F b).2.pos + (4 + 8 * (r7F b).1.length) := by rw [e7]
  have hle7 := (r_pos b).2.2.2.2.2.2.2
  have big : Lies b 0 (tabBy (rtT b)) := by
    rw [eqT]
    refine lies_app.2 ⟨lies_app.2 ⟨lies_app.2 ⟨lies_app.2 ⟨lies_app.2 ⟨lies_app.2 ⟨lies_take (by omega), ?_⟩, ?_⟩, ?_⟩, ?_⟩, ?_⟩, ?_⟩
    all_goals simp only [List.length_append, hc0, liB_len, Nat.zero_add]
    · rw [hp0] at l1; exact l1
    · rw [hp1] at l2; exact l2
    · rw [hp2] at l3; exact l3
    · rw [hp3] at l4; exact l4
    · rw [e4, hp3] at l6; exact l6
    · rw [hp6, e4, hp3] at l7; exact l7
  have hlen : (tabBy (rtT b)).length = b.length := by
    rw [eqT]
    simp only [List.length_append, hc0, liB_len]
    omega
  have := big.1
  rw [hlen, List.drop_zero, List.take_of_length_le (Nat.le_refl _)] at this
  exact this.symm
end Go.Proofs.Ytccmbokodifdoaa
namespace Go.Proofs.Ytccmbokodifdoaa
open Go.ChangeShapes Go.WideShapes Go.ChangeAt Go.RowKit Go.Joins Go.Deep
section
variable {H : Type} {enc : TypeId × Value → H} {W : World} {base : Nat}
theorem fldPairs {t e : TypeId} {f0 f1 : Field} (hts : Try.prog.underlying t = some (.slice e)) (hte : Try.prog.underlying e = some (.struct #[f0, f1])) (hone : oneCellFields Try.prog #[f0, f1] = true) (hC : Try.prog.cellsOf e = 2)
    (h0 : Try.prog.underlying f0.type = some (.int .i64)) (h1 : Try.prog.underlying f1.type = some (.int .i64)) {n : Nat} {v : Value} {y : DataW H × List MemPlace}
    (h : DataW.trod enc Try.prog W 0 (fun _ => true) true n t [v] = some y) : ∃ A m c l, v = .slice A m c ∧ At W 2 e2 A m c l ∧ Takes y.1 c := by
  obtain ⟨A, m, c, rfl⟩ := fldSlice hts h
  obtain ⟨d, p⟩ := y
  obtain ⟨l, h2, _, h3⟩ := open_structsQ (good := ok2) (en := e2) (sz := 2) hts hte hone hC rfl (by omega) (fun cs n hl hd => by
    obtain ⟨v0, y0, g0, t0⟩ := hd 0 f0 rfl
    obtain ⟨v1, y1, g1, t1⟩ := hd 1 f1 rfl
    obtain ⟨x0, rfl, b0⟩ := fldInt h0 t0
    obtain ⟨x1, rfl, b1⟩ := fldInt h1 t1
    match cs, hl with
    | [c0, c1], _ =>
      simp at g0 g1
      exact ⟨(x0, x1), ⟨b0, b1⟩, by rw [g0, g1]⟩) h
  exact ⟨A, m, c, l, rfl, h2, h3⟩
theorem fldTab {t : TypeId} {n c : Nat} {v : Value} {cs rest : List Value} {xs : List (DataW H × List MemPlace)} {i : Nat} (hc : Try.prog.cellsOf t = 1) (hd : cs.drop c = v :: rest) {y : DataW H × List MemPlace} (hx : xs[i]? = some y)
    (h : DataW.trod enc Try.prog W 0 (fun _ => true) true n t ((cs.drop c).take (Try.prog.cellsOf t)) = xs[i]?) : DataW.trod enc Try.prog W 0 (fun _ => true) true n t [v] = some y := by
  rw [hc, hd, hx] at h; exact h
theorem weights_of {ts : List TypeId} {ds : List (DataW H)} (hsz : (DataW.weightsEach Try.prog ts ds).all (· ≤ reachBytes) = true) (j : Nat) {t : TypeId} (ht : ts[j]? = some t) {d : DataW H} (hd : ds[j]? = some d) :
    (d.weights Try.prog t).all (· ≤ reachBytes) = true := by
  rw [List.all_eq_true] at hsz ⊢
  intro x hx
  exact hsz x (DataW.weights_mem_each ht hd x hx)
set_option maxRecDepth 100000 in
set_option maxHeartbeats 1000000 in
theorem open_table {v : Value} {d : DataW H} {p : List MemPlace} (hv : Value.okWide Try.prog W .any base 38 v) (h : DataW.Trod enc Try.prog W 0 (fun _ => true) true 38 v d p) (hs : (d.weights Try.prog 38).all (· ≤ reachBytes) = true) :
    ∃ t sA sn sc hA hn hc zA zn zc kA kn kc cA cn cc pA pn pc, v = .agg #[.int .i64 (Tab.start t), .slice sA sn sc, .slice hA hn hc, .slice zA zn zc, .slice kA kn kc, .slice cA cn cc, .slice pA pn pc] ∧ TabAt W sA sn sc hA hn hc zA zn zc kA kn kc cA cn cc pA pn pc t ∧ TabSz sn hn zn kn cn pn := by
  obtain ⟨cs, rfl, hsz⟩ := okWide_struct Try.underlying38 hv
  obtain ⟨l⟩ := cs
  have hC : Try.prog.cellsOf 38 = 7 := by kernel_rfl
  have C0 : Try.prog.cellsOf 3 = 1 := by kernel_rfl
  have C1 : Try.prog.cellsOf 35 = 1 := by kernel_rfl
  have C2 : Try.prog.cellsOf 34 = 1 := by kernel_rfl
  have C3 : Try.prog.cellsOf 36 = 1 := by kernel_rfl
  have B1 : Try.prog.bytesOf 84 = 16 := by kernel_rfl
  have B2 : Try.prog.bytesOf 3 = 8 := by kernel_rfl
  have B3 : Try.prog.bytesOf 65 = 16 := by kernel_rfl
  match l, hsz.trans hC with
  | [c0, c1, c2, c3, c4, c5, c6], _ =>
    obtain ⟨fuel, hf⟩ := h
    obtain ⟨xs, n, _, hx, _, hlen, hg⟩ := DataW.trod_struct Try.underlying38 hf
    match xs, hlen with
    | [y0, y1, y2, y3, y4, y5, y6], _ =>
      have hd : d = .agg [y0.1, y1.1, y2.1, y3.1, y4.1, y5.1, y6.1] := (congrArg Prod.fst hx)
      have hw : (DataW.weightsEach Try.prog [3, 35, 35, 34, 34, 36, 34] [y0.1, y1.1, y2.1, y3.1, y4.1, y5.1, y6.1]).all (· ≤ reachBytes) = true := by
        rw [hd] at hs
        simp only [DataW.weights, Try.underlying38] at hs
        exact hs
      obtain ⟨st, rfl, _⟩ := fldInt Try.underlying3 (fldTab (i := 0) (c := 0) C0 rfl rfl (hg 0 _ rfl))
      obtain ⟨sA, sn, sc, S, rfl, hS, k1⟩ := fldPairs Try.underlying35 Try.underlying84 (by kernel_rfl) (by kernel_rfl) Try.underlying3 Try.underlying3 (fldTab (i := 1) (c := 1) C1 rfl rfl (hg 1 _ rfl))
      obtain ⟨hA, hn, hc, SH, rfl, hSH, k2⟩ := fldPairs Try.underlying35 Try.underlying84 (by kernel_rfl) (by kernel_rfl) Try.underlying3 Try.underlying3 (fldTab (i := 2) (c := 2) C1 rfl rfl (hg 2 _ rfl))
      obtain ⟨zA, zn, zc, Z, rfl, hZ, _, k3⟩ := fldIntsP Try.underlying34 Try.underlying3 C0 (fldTab (i := 3) (c := 3) C2 rfl rfl (hg 3 _ rfl))
      obtain ⟨kA, kn, kc, K, rfl, hK, _, k4⟩ := fldIntsP Try.underlying34 Try.underlying3 C0 (fldTab (i := 4) (c := 4) C2 rfl rfl (hg 4 _ rfl))
      obtain ⟨cA, cn, cc, C, rfl, hCC, k5⟩ := fldPairs Try.underlying36 Try.underlying65 (by kernel_rfl) (by kernel_rfl) Try.underlying3 Try.underlying3 (fldTab (i := 5) (c := 5) C3 rfl rfl (hg 5 _ rfl))
      obtain ⟨pA, pn, pc, PP, rfl, hP, _, k6⟩ := fldIntsP Try.underlying34 Try.underlying3 C0 (fldTab (i := 6) (c := 6) C2 rfl rfl (hg 6 _ rfl))
      have b1 := reach_of Try.underlying35 hw 1 rfl rfl k1 hS.le
      have b2 := reach_of Try.underlying35 hw 2 rfl rfl k2 hSH.le
      have b3 := reach_of Try.underlying34 hw 3 rfl rfl k3 hZ.le
      have b4 := reach_of Try.underlying34 hw 4 rfl rfl k4 hK.le
      have b5 := reach_of Try.underlying36 hw 5 rfl rfl k5 hCC.le
      have b6 := reach_of Try.underlying34 hw 6 rfl rfl k6 hP.le
      rw [B1] at b1 b2
      rw [B2] at b3 b4 b6
      rw [B3] at b5
      exact ⟨⟨st, S, SH, Z, K, kA.isNone, C, PP⟩, sA, sn, sc, hA, hn, hc, zA, zn, zc, kA, kn, kc, cA, cn, cc, pA, pn, pc, rfl, ⟨hS, hSH, hZ, hK, by simp, hCC, hP⟩, ⟨by omega, by omega, by omega, by omega, by omega, by omega⟩⟩
end
end Go.Proofs.Ytccmbokodifdoaa
namespace Go.Proofs.Ytccmbokodifdoaa
open Go.ChangeShapes Go.WideShapes Go.ChangeAt Go.RowKit
set_option maxRecDepth 100000 in
theorem open_bytes {H : Type} {enc : TypeId × Value → H} {W : World} {base : Nat} {v : Value} {d : DataW H} {p : List MemPlace} (hv : Value.okWide Try.prog W .any base 22 v) (h : DataW.Trod enc Try.prog W 0 (fun _ => true) true 22 v d p) :
    ∃ A n c l, v = .slice A n c ∧ At W 1 e8 A n c l ∧ Takes d c := open_bytesP Try.underlying22 Try.underlying5 (by kernel_rfl) hv h
set_option linter.unusedVariables false in
set_option maxRecDepth 100000 in
set_option maxHeartbeats 8000000 in
theorem tabback_any {sA0 : Option Addr} {sn0 sc0 : Nat} {hA0 : Option Addr} {hn0 hc0 : Nat} {zA0 : Option Addr} {zn0 zc0 : Nat} {kA0 : Option Addr} {kn0 kc0 : Nat} {cA0 : Option Addr} {cn0 cc0 : Nat} {pA0 : Option Addr} {pn0 pc0 : Nat} {t : Tab} {B : Option Addr} {m d : Nat} {b : List UInt8} {w : World} (hx : TabAt w sA0 sn0 sc0 hA0 hn0 hc0 zA0 zn0 zc0 kA0 kn0 kc0 cA0 cn0 cc0 pA0 pn0 pc0 t) (hz : TabSz sn0 hn0 zn0 kn0 cn0 pn0) (hb : At w 1 e8 B m d b) :
    Calls Try.prog 8 #[.agg #[.int .i64 t.start, .slice sA0 sn0 sc0, .slice hA0 hn0 hc0, .slice zA0 zn0 zc0, .slice kA0 kn0 kc0, .slice cA0 cn0 cc0, .slice pA0 pn0 pc0], .slice B m d] w fun e w' => e = .returned (.bool true) ∧ Ext w w' := by
  have HAW := hide (fun (W : World) => awake_any W)
  have E0 := hide (Ext.alloc w (.cells #[.int .i64 t.start, .slice sA0 sn0 sc0, .slice hA0 hn0 hc0, .slice zA0 zn0 zc0, .slice kA0 kn0 kc0, .slice cA0 cn0 cc0, .slice pA0 pn0 pc0] 38))
  have X0 := hide (Blk.new w 38 #[.int .i64 t.start, .slice sA0 sn0 sc0, .slice hA0 hn0 hc0, .slice zA0 zn0 zc0, .slice kA0 kn0 kc0, .slice cA0 cn0 cc0, .slice pA0 pn0 pc0])
  have HTB := hide (keyTabBytes_any (hx.ext E0.out) hz)
  have HRB := hide (fun (W : World) (hW : Ext w W) => keyReadTable_any (hb.ext hW))
  have HX := hide hx
  have HBB := hide hb
  have hk : t.nok = true → t.keys = [] := fun hn => by
    have h1 := hx.keys.none_ (hx.nok.2 hn)
    have h2 := hx.keys.le
    have h3 := hx.keys.len
    exact List.length_eq_zero_iff.1 (by omega)
  clear hx hb hz
  by_cases hF : tabF t = 0
  case pos =>
    have HL0 : Hid (tbL t = tabBy t) := hide (by unfold tbL; rw [if_pos hF])
    rw [hF, HL0.out] at HTB
    by_cases hbig : (tabBy t).length ≤ 1000000
    · have HBK := hide (tb_read hF hk hbig)
      have HRD : Hid (rdTF (tabBy t) = 0 ∧ rdTV (tabBy t) = t) := hide (by
        obtain ⟨r1, r2, r3⟩ := HBK.out
        have h1 : rdTF (tabBy t) = 0 := by unfold rdTF; rw [if_neg (by omega), r2]; exact hF
        exact ⟨h1, by unfold rdTV; rw [if_pos h1, r2]⟩)
      clear hF HL0 hk
      go_enter Try.func8, Try.ntmps8
      go_wp2_with fail
      with_reducible refine HTB.out.mono ?_
      rintro e w1 ⟨N1, k1, c1, rfl, q1, e1⟩
      have hk1 := q1.len
      have E1 := hide (Ext.trans E0.out e1)
      have X1 := hide (X0.out.ext e1)
      have HRC := hide (keyReadTable_any q1)
      have dl : decide ((1000000 : Int) < (k1 : Int)) = false := by rw [decide_eq_false_iff_not]; omega
      clear q1 e1 E0 X0 HTB hbig hk1
      go_wp2_with fail
      with_reducible refine HRC.out.mono ?_
      rintro e w2 ⟨v2, he, hv2, e2⟩
      rw [HRD.out.1, HBK.out.2.2] at he
      have hv2 := hv2.tbv
      rw [HRD.out.2] at hv2
      obtain ⟨sA2, sn2, sc2, hA2, hn2, hc2, zA2, zn2, zc2, kA2, kn2, kc2, cA2, cn2, cc2, pA2, pn2, pc2, rfl, t2⟩ := hv2
      subst he
      have E2 := hide (Ext.trans E1.out e2)
      have X2 := hide (X1.out.ext e2)
      have T2 := hide t2
      clear t2 e2 E1 X1 HRC HBK HRD
      go_upto_region 4 with (fail)
      refine gen_wpC fun w3 h3 => ?_
      obtain ⟨gy, hgy⟩ : ∃ gy, gy = w2.heap.size := ⟨_, rfl⟩
      rw [← hgy]
      have E3 : Hid (Ext w w3) := hide (by rw [h3]; exact Ext.trans E2.out (Ext.alloc _ _))
      have X3 : Hid (Blk w3 w.heap.size 38 #[.int .i64 t.start, .slice sA0 sn0 sc0, .slice hA0 hn0 hc0, .slice zA0 zn0 zc0, .slice kA0 kn0 kc0, .slice cA0 cn0 cc0, .slice pA0 pn0 pc0]) := hide (by rw [h3]; exact X2.out.alloc _)
      have Y3 : Hid (Blk w3 gy 38 #[.int .i64 t.start, .slice sA2 sn2 sc2, .slice hA2 hn2 hc2, .slice zA2 zn2 zc2, .slice kA2 kn2 kc2, .slice cA2 cn2 cc2, .slice pA2 pn2 pc2]) := hide (by rw [h3, hgy]; exact Blk.new _ _ _)
      have HS := hide (sameTab_any (w := w3) (t := t) (v1 := .agg #[.int .i64 t.start, .slice sA2 sn2 sc2, .slice hA2 hn2 hc2, .slice zA2 zn2 zc2, .slice kA2 kn2 kc2, .slice cA2 cn2 cc2, .slice pA2 pn2 pc2]) (v2 := .agg #[.int .i64 t.start, .slice sA0 sn0 sc0, .slice hA0 hn0 hc0, .slice zA0 zn0 zc0, .slice kA0 kn0 kc0, .slice cA0 cn0 cc0, .slice pA0 pn0 pc0]) ⟨sA2, sn2, sc2, hA2, hn2, hc2, zA2, zn2, zc2, kA2, kn2, kc2, cA2, cn2, cc2, pA2, pn2, pc2, rfl, by rw [h3]; exact T2.out.ext (Ext.alloc _ _)⟩ ⟨sA0, sn0, sc0, hA0, hn0, hc0, zA0, zn0, zc0, kA0, kn0, kc0, cA0, cn0, cc0, pA0, pn0, pc0, rfl, HX.out.ext E3.out⟩)
      have x0 : w3.cell? ⟨w.heap.size, 0, none⟩ = some (.int .i64 t.start) := X3.out.cell 0
      have x1 : w3.cell? ⟨w.heap.size, 1, none⟩ = some (.slice sA0 sn0 sc0) := X3.out.cell 1
      have x2 : w3.cell? ⟨w.heap.size, 2, none⟩ = some (.slice hA0 hn0 hc0) := X3.out.cell 2
      have x3 : w3.cell? ⟨w.heap.size, 3, none⟩ = some (.slice zA0 zn0 zc0) := X3.out.cell 3
      have x4 : w3.cell? ⟨w.heap.size, 4, none⟩ = some (.slice kA0 kn0 kc0) := X3.out.cell 4
      have x5 : w3.cell? ⟨w.heap.size, 5, none⟩ = some (.slice cA0 cn0 cc0) := X3.out.cell 5
      have x6 : w3.cell? ⟨w.heap.size, 6, none⟩ = some (.slice pA0 pn0 pc0) := X3.out.cell 6
      have y0 : w3.cell? ⟨gy, 0, none⟩ = some (.int .i64 t.start) := Y3.out.cell 0
      have y1 : w3.cell? ⟨gy, 1, none⟩ = some (.slice sA2 sn2 sc2) := Y3.out.cell 1
      have y2 : w3.cell? ⟨gy, 2, none⟩ = some (.slice hA2 hn2 hc2) := Y3.out.cell 2
      have y3 : w3.cell? ⟨gy, 3, none⟩ = some (.slice zA2 zn2 zc2) := Y3.out.cell 3
      have y4 : w3.cell? ⟨gy, 4, none⟩ = some (.slice kA2 kn2 kc2) := Y3.out.cell 4
      have y5 : w3.cell? ⟨gy, 5, none⟩ = some (.slice cA2 cn2 cc2) := Y3.out.cell 5
      have y6 : w3.cell? ⟨gy, 6, none⟩ = some (.slice pA2 pn2 pc2) := Y3.out.cell 6
      clear h3 hgy E2 X2 T2 HX
      generalize t.start = ts at *
      go_wp2_with fail
      with_reducible refine HS.out.mono ?_
      rintro e w4 ⟨rfl, e4⟩
      have E4 := hide (Ext.trans E3.out e4)
      clear e4 x0 x1 x2 x3 x4 x5 x6 y0 y1 y2 y3 y4 y5 y6 E3 X3 Y3 HS dl
      by_cases hR : rdTF b = 0
      · have HAG := hide (tb_back hR)
        have HR := hide hR
        clear hR
        have hfew := tab_few (tab_right HAG.out.2.1)
        go_wp2_with fail
        with_reducible refine (HRB.out _ E4.out).mono ?_
        rintro e w5 ⟨v5, he, hv5, e5⟩
        rw [HR.out] at he
        subst he
        have hv5 := hv5.tbv
        obtain ⟨sA5, sn5, sc5, hA5, hn5, hc5, zA5, zn5, zc5, kA5, kn5, kc5, cA5, cn5, cc5, pA5, pn5, pc5, rfl, t5⟩ := hv5
        have E5 := hide (Ext.trans E4.out e5)
        have HTB2 := hide (fun (W : World) (hW : Ext w5 W) => (by
          have := keyTabBytes_any (t5.ext hW) ⟨by rw [← t5.steps.len]; omega, by rw [← t5.shifts.len]; omega, by rw [← t5.sizes.len]; omega, by rw [← t5.keys.len]; omega, by rw [← t5.chunks.len]; omega, by rw [← t5.places.len]; omega⟩
          rw [HAG.out.2.1, show tbL (rdTV b) = b from by unfold tbL; rw [if_pos HAG.out.2.1, HAG.out.1]] at this
          exact this : Calls Try.prog 25 #[.agg #[.int .i64 (rdTV b).start, .slice sA5 sn5 sc5, .slice hA5 hn5 hc5, .slice zA5 zn5 zc5, .slice kA5 kn5 kc5, .slice cA5 cn5 cc5, .slice pA5 pn5 pc5]] W (Gives 1 e8 W b 0)))
        clear t5 e5 E4 hfew HAG
        generalize (rdTV b).start = rs at *
        generalize rtA b = ra at *
        go_wp2_with fail
        with_reducible refine (HTB2.out _ (Ext.alloc _ _)).mono ?_
        rintro e w6 ⟨N6, k6, c6, rfl, q6, e6⟩
        have E6 := hide (Ext.trans E5.out (Ext.trans (Ext.alloc _ _) e6))
        have HBE := hide (Calls.mono (bytesEq_any (HBB.out.ext E6.out) q6) (fun e w' he => (⟨by rw [he.1]; simp, he.2⟩ : e = .returned (.bool true) ∧ w6 = w')))
        clear q6 e6 E5 HTB2
        go_wp2_with fail
        with_reducible refine HBE.out.mono ?_
        rintro e w' ⟨rfl, rfl⟩
        go_wp2_with fail
        with_reducible refine (HAW.out _).mono ?_
        rintro e w7 ⟨rfl, e7⟩
        have E7 := hide (Ext.trans E6.out e7)
        clear e7
        go_wp2_with fail
        go_ret
        exact ⟨rfl, E7.out⟩
      · have HRL : Hid (rdTV b = noTab) := hide (by unfold rdTV; rw [if_neg hR])
        have d5 : (rdTF b != 0) = true := by simp [hR]
        clear hR
        go_wp2_with fail
        with_reducible refine (HRB.out _ E4.out).mono ?_
        rintro e w5 ⟨v5, he, hv5, e5⟩
        have hv5 := hv5.tbv
        rw [HRL.out] at hv5
        obtain ⟨sA5, sn5, sc5, hA5, hn5, hc5, zA5, zn5, zc5, kA5, kn5, kc5, cA5, cn5, cc5, pA5, pn5, pc5, rfl, t5⟩ := hv5
        have hk5 : sn5 = 0 := by have := t5.steps.len; simpa [noTab] using this.symm
        subst hk5
        subst he
        have E5 := hide (Ext.trans E4.out e5)
        clear t5 e5 E4
        generalize noTab.start = rs at *
        generalize rdTF b = rf at *
        generalize rtA b = ra at *
        go_wp2_with fail
        with_reducible refine (HAW.out _).mono ?_
        rintro e w6 ⟨rfl, e6⟩
        have E6 := hide (Ext.trans E5.out (Ext.trans (Ext.alloc _ _) e6))
        clear e6
        go_wp2_with fail
        go_ret
        exact ⟨rfl, E6.out⟩
    · have HRD : Hid (rdTF (tabBy t) = 2) := hide (by
        have h1 : rtF (tabBy t) = 2 := by unfold rtF; rw [if_pos (by omega)]
        unfold rdTF; rw [if_pos (by omega), h1])
      clear hF HL0 hk
      go_enter Try.func8, Try.ntmps8
      go_wp2_with fail
      with_reducible refine HTB.out.mono ?_
      rintro e w1 ⟨N1, k1, c1, rfl, q1, e1⟩
      have hk1 := q1.len
      have E1 := hide (Ext.trans E0.out e1)
      have HRC := hide (keyReadTable_any q1)
      have dl : decide ((1000000 : Int) < (k1 : Int)) = true := by rw [decide_eq_true_iff]; omega
      clear q1 e1 E0 X0 HTB hbig hk1
      go_wp2_with fail
      with_reducible refine HRC.out.mono ?_
      rintro e w2 ⟨v2, he, hv2, e2⟩
      rw [HRD.out] at he
      have hv2 := hv2.tbv
      obtain ⟨sA2, sn2, sc2, hA2, hn2, hc2, zA2, zn2, zc2, kA2, kn2, kc2, cA2, cn2, cc2, pA2, pn2, pc2, rfl, t2⟩ := hv2
      subst he
      have E2 := hide (Ext.trans E1.out e2)
      clear t2 e2 E1 HRC HRD
      generalize (rdTV (tabBy t)).start = rs at *
      generalize rtA (tabBy t) = ra at *
      go_wp2_with fail
      go_ret
      exact ⟨rfl, Ext.trans E2.out (Ext.alloc _ _)⟩
  case neg =>
    have d0 : (tabF t == 0) = false := by rw [beq_eq_false_iff_ne]; exact hF
    clear hF hk
    generalize tbL t = tl at *
    generalize tabF t = tf at *
    generalize t.start = ts at *
    go_enter Try.func8, Try.ntmps8
    go_wp2_with fail
    with_reducible refine HTB.out.mono ?_
    rintro e w4 ⟨N1, k1, c1, rfl, q1, e1⟩
    have E4 := hide (Ext.trans E0.out e1)
    clear q1 e1 E0 X0 HTB HX
    by_cases hR : rdTF b = 0
    · have HAG := hide (tb_back hR)
      have HR := hide hR
      clear hR
      have hfew := tab_few (tab_right HAG.out.2.1)
      go_wp2_with fail
      with_reducible refine (HRB.out _ E4.out).mono ?_
      rintro e w5 ⟨v5, he, hv5, e5⟩
      rw [HR.out] at he
      subst he
      have hv5 := hv5.tbv
      obtain ⟨sA5, sn5, sc5, hA5, hn5, hc5, zA5, zn5, zc5, kA5, kn5, kc5, cA5, cn5, cc5, pA5, pn5, pc5, rfl, t5⟩ := hv5
      have E5 := hide (Ext.trans E4.out e5)
      have HTB2 := hide (fun (W : World) (hW : Ext w5 W) => (by
        have := keyTabBytes_any (t5.ext hW) ⟨by rw [← t5.steps.len]; omega, by rw [← t5.shifts.len]; omega, by rw [← t5.sizes.len]; omega, by rw [← t5.keys.len]; omega, by rw [← t5.chunks.len]; omega, by rw [← t5.places.len]; omega⟩
        rw [HAG.out.2.1, show tbL (rdTV b) = b from by unfold tbL; rw [if_pos HAG.out.2.1, HAG.out.1]] at this
        exact this : Calls Try.prog 25 #[.agg #[.int .i64 (rdTV b).start, .slice sA5 sn5 sc5, .slice hA5 hn5 hc5, .slice zA5 zn5 zc5, .slice kA5 kn5 kc5, .slice cA5 cn5 cc5, .slice pA5 pn5 pc5]] W (Gives 1 e8 W b 0)))
      clear t5 e5 E4 hfew HAG
      generalize (rdTV b).start = rs at *
      generalize rtA b = ra at *
      go_wp2_with fail
      with_reducible refine (HTB2.out _ (Ext.alloc _ _)).mono ?_
      rintro e w6 ⟨N6, k6, c6, rfl, q6, e6⟩
      have E6 := hide (Ext.trans E5.out (Ext.trans (Ext.alloc _ _) e6))
      have HBE := hide (Calls.mono (bytesEq_any (HBB.out.ext E6.out) q6) (fun e w' he => (⟨by rw [he.1]; simp, he.2⟩ : e = .returned (.bool true) ∧ w6 = w')))
      clear q6 e6 E5 HTB2
      go_wp2_with fail
      with_reducible refine HBE.out.mono ?_
      rintro e w' ⟨rfl, rfl⟩
      go_wp2_with fail
      with_reducible refine (HAW.out _).mono ?_
      rintro e w7 ⟨rfl, e7⟩
      have E7 := hide (Ext.trans E6.out e7)
      clear e7
      go_wp2_with fail
      go_ret
      exact ⟨rfl, E7.out⟩
    · have HRL : Hid (rdTV b = noTab) := hide (by unfold rdTV; rw [if_neg hR])
      have d5 : (rdTF b != 0) = true := by simp [hR]
      clear hR
      go_wp2_with fail
      with_reducible refine (HRB.out _ E4.out).mono ?_
      rintro e w5 ⟨v5, he, hv5, e5⟩
      have hv5 := hv5.tbv
      rw [HRL.out] at hv5
      obtain ⟨sA5, sn5, sc5, hA5, hn5, hc5, zA5, zn5, zc5, kA5, kn5, kc5, cA5, cn5, cc5, pA5, pn5, pc5, rfl, t5⟩ := hv5
      have hk5 : sn5 = 0 := by have := t5.steps.len; simpa [noTab] using this.symm
      subst hk5
      subst he
      have E5 := hide (Ext.trans E4.out e5)
      clear t5 e5 E4
      generalize noTab.start = rs at *
      generalize rdTF b = rf at *
      generalize rtA b = ra at *
      go_wp2_with fail
      with_reducible refine (HAW.out _).mono ?_
      rintro e w6 ⟨rfl, e6⟩
      have E6 := hide (Ext.trans E5.out (Ext.trans (Ext.alloc _ _) e6))
      clear e6
      go_wp2_with fail
      go_ret
      exact ⟨rfl, E6.out⟩
set_option maxRecDepth 100000 in
theorem boxTablesComeBack_lifted (os : Os) (started : os.Started) (H : Type) (enc : TypeId × Value → H) :
    ReturnsInHanded {} Try.checked os 8 .any (Rows.boxTablesComeBackSpec.pre6 enc Try.prog Try.f8 Rows.boxTablesComeBackRow.domain false) (Rows.boxTablesComeBackSpec.post enc Try.prog Try.f8 false true false false) := by
  refine returnsInHanded_of_change_sized (C := Try.checked) Try.own started (by kernel_rfl) Try.func8
    (ChangeSpec.witness6 (enc := enc) (C := Try.checked) false ⟨#[], #[.agg #[.int .i64 0, .slice none 0 0, .slice none 0 0, .slice none 0 0, .slice none 0 0, .slice none 0 0, .slice none 0 0], .slice none 0 0], []⟩ 8 (by kernel_rfl) (by kernel_rfl) (by kernel_rfl) (by kernel_rfl)) ?_
  intro W base args ds gs before hval0 hW _ hsz0 _
  have hsz : (DataW.weightsEach Try.prog (Try.f8.params.toList ++ Rows.boxTablesComeBackSpec.plain.varTypes Try.prog) (ds ++ gs)).all (· ≤ reachBytes) = true := hsz0
  have hval : ∀ (j : Nat) t v, Try.f8.params[j]? = some t → args[j]? = some v → Value.okWide Try.prog W .any base t v := hval0
  have hW' := hW
  obtain ⟨p, q, hA0, hV, rfl, _, _⟩ := hW
  have hA : DataW.TrodAll enc Try.prog W 0 (fun _ => true) true Try.f8.params.toList args.toList ds p := hA0
  rw [Try.params8] at hA hval hsz
  obtain ⟨v0, v1, d0, d1, p0, p1, rfl, rfl, rfl, h0, h1⟩ := trodAll_two hA
  obtain ⟨t0, sA0, sn0, sc0, hA0, hn0, hc0, zA0, zn0, zc0, kA0, kn0, kc0, cA0, cn0, cc0, pA0, pn0, pc0, rfl, hTa0, hTz0⟩ := open_table (hval 0 38 v0 rfl rfl) h0 (weights_of hsz 0 rfl rfl)
  obtain ⟨A1, n1, c1, l1, rfl, hAt1, _⟩ := open_bytes (hval 1 22 v1 rfl rfl) h1
  refine (tabback_any hTa0 hTz0 hAt1).mono fun e W' ⟨he, hE⟩ => ?_
  subst he
  exact ⟨_, rfl, law_post Try.laidOut Try.underlying4 hW' rfl rfl rfl (by kernel_rfl) hE⟩
theorem boxTablesComeBack_closed : joinedFacts Try.prog 8 Try.f8 Rows.boxTablesComeBackSpec Rows.boxTablesComeBackRow = true :=
  joined_of Try.laidOut Try.mapsRowed Try.plainKeys Try.stopsHeard Try.stopsNone Try.knobsNone Try.mayEnter Try.makeCut Try.liftsFinal rfl rfl rfl (by as_aux_lemma => kernel_rfl)
    (by as_aux_lemma => kernel_rfl) (by as_aux_lemma => kernel_rfl) (by as_aux_lemma => kernel_rfl) (by as_aux_lemma => kernel_rfl) (by as_aux_lemma => kernel_rfl) (by as_aux_lemma => kernel_rfl) (by as_aux_lemma => kernel_rfl) (by as_aux_lemma => kernel_rfl) (by as_aux_lemma => kernel_rfl) (by as_aux_lemma => kernel_rfl)
theorem boxTablesComeBack_holds : Rows.BoxTablesComeBackSaid :=
  OpenClaim.holds_of_wide 8 Try.f8 rfl rfl rfl rfl rfl rfl rfl ⟨rfl, rfl, rfl, rfl, rfl⟩ rfl rfl rfl rfl rfl (by as_aux_lemma => kernel_rfl) Try.func8 boxTablesComeBack_closed
    (of_decide_eq_true (by kernel_rfl)) (by unfold Func.isWrapper; first | (rw [if_pos (by decide +kernel)]; kernel_rfl) | (rw [if_neg (by decide +kernel)]; exact ⟨rfl, rfl⟩))
    (fun os started H enc _ => boxTablesComeBack_lifted os started H enc)
#print axioms boxTablesComeBack_holds
end Go.Proofs.Ytccmbokodifdoaa
