/- Walks: appendList, runNumbers (program). Conditions as stated. -/
import Derived.Test.YtlonhkjplijlcaaMwf08
import Derived.Test.YtlonhkjplijlcaaMwf09
import Derived.Test.YtlonhkjplijlcaaMwf10
namespace Go.Proofs.Ytlonhkjplijlcaa
open Go.RowKit
/-- Numbers as bytes, eight each. -/
def u64N (x : Int) : Nat := (IntKind.u64.wrap x).toNat
def lsB (l : List Int) : List UInt8 := l.flatMap fun x => beN 8 (u64N x)
def liB (many : Nat) (l : List Int) : List UInt8 := beN 4 many ++ lsB l
def rnN (l : List (Int × Int)) : List Int := l.flatMap fun r => [r.1, r.2]
theorem u64N_cast (x : Int) : ((u64N x : Nat) : Int) = IntKind.u64.wrap x := by unfold u64N; rw [IntKind.wrap_u64]; omega
theorem u64N_lt (x : Int) : u64N x < 18446744073709551616 := by unfold u64N; rw [IntKind.wrap_u64]; omega
theorem lsB_len (l : List Int) : (lsB l).length = 8 * l.length := by
  induction l with
  | nil => rfl
  | cons x xs ih => unfold lsB at ih ⊢; rw [List.flatMap_cons, List.length_append, ih, List.length_cons, beN_len]; omega
theorem lsB_take {l : List Int} {k : Nat} (h : k < l.length) : lsB (l.take (k + 1)) = lsB (l.take k) ++ beN 8 (u64N (l.getD k 0)) := by
  unfold lsB; rw [getD_take l k 0 h, List.flatMap_append]; simp
theorem rnN_len (l : List (Int × Int)) : (rnN l).length = 2 * l.length := by
  induction l with
  | nil => rfl
  | cons x xs ih => unfold rnN at ih ⊢; rw [List.flatMap_cons, List.length_append, ih, List.length_cons]; simp; omega
theorem rnN_take {l : List (Int × Int)} {k : Nat} (h : k < l.length) : rnN (l.take (k + 1)) = rnN (l.take k) ++ [(l.getD k (0, 0)).1, (l.getD k (0, 0)).2] := by
  unfold rnN; rw [getD_take l k (0, 0) h, List.flatMap_append]; simp
theorem At.newI2 (w : World) (x y : Int) (t : TypeId) : At (w.alloc (.cells #[.int .i64 x, .int .i64 y] t)) 1 e64 (some ⟨w.heap.size, 0, none⟩) 2 2 [x, y] :=
  ⟨rfl, Nat.le_refl _, by unfold maxLen; omega, fun h => (by cases h), fun k z hz => ⟨_, _, rfl, fun j u hu => by
    have hb := Blk.new w t #[.int .i64 x, .int .i64 y]
    match k, hz with
    | 0, hz =>
      simp at hz; subst hz
      match j, hu with
      | 0, hu => simp at hu; subst hu; exact hb.cell 0
      | j + 1, hu => simp at hu
    | 1, hz =>
      simp at hz; subst hz
      match j, hu with
      | 0, hu => simp at hu; subst hu; exact hb.cell 1
      | j + 1, hu => simp at hu
    | k + 2, hz => simp at hz⟩⟩
set_option linter.unusedVariables false in
set_option maxRecDepth 100000 in
set_option maxHeartbeats 4000000 in
/-- A row that has grown: its old block, or a new one. -/
structure Grw (w w' : World) (v v' : Value) : Prop where
  grown : w.grownBy w' v.ownBlock
  row : v'.ownBlock = v.ownBlock ∨ ∃ g, v'.ownBlock = some g ∧ w.heap.size ≤ g
theorem Grw.refl (w : World) (v : Value) : Grw w w v v := ⟨World.grownBy.refl w _, .inl rfl⟩
theorem Grw.trans {a b c : World} {u v x : Value} (h : Grw a b u v) (k : Grw b c v x) : Grw a c u x := by
  refine ⟨⟨k.grown.os.trans h.grown.os, k.grown.tape.trans h.grown.tape, k.grown.output.trans h.grown.output, Nat.le_trans h.grown.size k.grown.size, fun q hq hr => (k.grown.block q (Nat.lt_of_lt_of_le hq h.grown.size) (fun e => ?_)).trans (h.grown.block q hq hr)⟩, ?_⟩
  · rcases h.row with h1 | ⟨g, h1, h2⟩
    · exact hr (e.trans h1)
    · rw [h1] at e; have := Option.some.inj e; omega
  · rcases k.row with h1 | ⟨g, h1, h2⟩
    · rcases h.row with h3 | ⟨g, h3, h4⟩
      · exact .inl (h1.trans h3)
      · exact .inr ⟨g, h1.trans h3, h4⟩
    · exact .inr ⟨g, h1, Nat.le_trans h.grown.size h2⟩
theorem Grw.ahead {a b c : World} {u v : Value} (h : Ext a b) (k : Grw b c u v) : Grw a c u v :=
  ⟨⟨k.grown.os.trans h.os, k.grown.tape.trans h.tape, k.grown.output.trans h.output, Nat.le_trans h.size k.grown.size, fun q hq hr => (k.grown.block q (Nat.lt_of_lt_of_le hq h.size) hr).trans (h.block q hq)⟩, by
    rcases k.row with h1 | ⟨g, h1, h2⟩
    · exact .inl h1
    · exact .inr ⟨g, h1, Nat.le_trans h.size h2⟩⟩
theorem Grw.of {w w' : World} {v v' : Value} (hg : w.grownBy w' v.ownBlock) (hr : v'.ownBlock = v.ownBlock ∨ v'.ownBlock = some w.heap.size) : Grw w w' v v' :=
  ⟨hg, by rcases hr with h | h
          · exact .inl h
          · exact .inr ⟨_, h, Nat.le_refl _⟩⟩
theorem At.grow {α : Type} {w w' : World} {sz : Nat} {enc : α → List Value} {A : Option Addr} {n c : Nat} {xs : List α} {row : Option Nat} (h : At w sz enc A n c xs) (hg : w.grownBy w' row) (hr : ∀ a, A = some a → some a.block ≠ row) : At w' sz enc A n c xs :=
  ⟨h.len, h.le, h.max, h.none_, fun k x hx => by
    obtain ⟨b, off, e, hc⟩ := h.cells k x hx
    have h2 := hr _ e
    refine ⟨b, off, e, fun j u hu => ?_⟩
    have h3 := hc j u hu
    have h4 := hg.block b (by have := cell_lt h3; simpa using this) h2
    unfold World.cell? at h3 ⊢
    simp only at h3 ⊢
    rw [h4]
    exact h3⟩
/-- What an append of bytes to an own row gives. -/
def GrGives (w : World) (base : Nat) (v : Value) (l : List UInt8) (e : Ending) (w' : World) : Prop := ∃ v', e = .returned v' ∧ Own w' base 5 1 e8 v' l ∧ Grw w w' v v'
set_option linter.unusedVariables false in
set_option maxRecDepth 100000 in
set_option maxHeartbeats 2000000 in
theorem appendNumberG {w : World} {base many n : Nat} {z : Int} {v : Value} {l : List UInt8} (ho : Own w base 5 1 e8 v l) (hbw : base ≤ w.heap.size) (hz : (many : Int) = z) (hm : many ≤ 8) (hn : n < 18446744073709551616) (hl : l.length ≤ 1000000000) :
    Calls Try.prog 41 #[v, .int .u64 (n : Int), .int .i64 z] w (GrGives w base v (l ++ beN many n)) := by
  subst hz
  have HO := hide ho
  clear ho
  go_enter Try.func41, Try.ntmps41
  go_wp2_with fail
  go_loopw [0, 7] (fun r0 r7 wr => ∃ k : Nat, k ≤ many ∧ r7 = .int .i64 ((k : Int) - 1) ∧ Hid (Own wr base 5 1 e8 r0 (l ++ beN (many - k) (n / 256 ^ k))) ∧ Hid (Grw w wr v r0) ∧ Hid (base ≤ wr.heap.size)) (fun _ r7 _ => ((intOf r7) + 1).toNat)
  case atStart => exact ⟨many, by omega, by go_num, hide (by rw [Nat.sub_self]; simpa [beN] using HO.out), hide (Grw.refl _ _), hide hbw⟩
  case round =>
    obtain ⟨k, hk, rfl, HK, HX, HBW⟩ := hrel
    by_cases h0 : 0 < k
    · obtain ⟨j, rfl⟩ : ∃ j, k = j + 1 := ⟨k - 1, by omega⟩
      have e1 : ((j + 1 : Nat) : Int) - 1 = (j : Int) := by omega
      rw [e1]
      have i1 : (0 : Int) ≤ (j : Int) := by omega
      have i2 : IntKind.i64.wrap (8 * (j : Int)) = 8 * (j : Int) := by rw [IntKind.wrap_i64]; omega
      have HU : Hid (e8 (UInt8.ofNat (n / 256 ^ j)) = [.int .u8 ((n : Int) / 2 ^ (8 * j) % 256)]) := hide (e8_byte n j)
      have HL : Hid ((l ++ beN (many - (j + 1)) (n / 256 ^ (j + 1))).length + 1 ≤ maxLen) := hide (by rw [List.length_append, beN_len]; unfold maxLen; omega)
      have HL2 : Hid (((l ++ beN (many - (j + 1)) (n / 256 ^ (j + 1))).length + 1) * 1 ≤ 140737488355328) := hide (by rw [List.length_append, beN_len]; omega)
      have HB2 : Hid (base ≤ (wr.alloc (.cells #[.int .u8 ((n : Int) / 2 ^ (8 * j) % 256)] 5)).heap.size) := hide (by rw [World.size_alloc]; have := HBW.out; omega)
      have HE2 : Hid (l ++ beN (many - (j + 1)) (n / 256 ^ (j + 1)) ++ [UInt8.ofNat (n / 256 ^ j)] = l ++ beN (many - j) (n / 256 ^ j)) := hide (by rw [beN_step n j many (by omega), List.append_assoc])
      obtain ⟨i0_, hi0, hz0, hz1, hz2⟩ := info_parts Try.info5
      clear e1
      go_wp2_with (at_builtin; refine wpList_append_at _ rfl (.tmp 14) (.tmp 20) 26 rfl base 5 i0_ _ 1 Try.underlying26 hi0 hz0 hz1 hz2 rfl (by omega) len_e8 one_e8 u0 _ (by rfl) (HK.out.ext (Ext.alloc _ _)) (some ⟨wr.heap.size, 0, none⟩) 1 1 [UInt8.ofNat (n / 256 ^ j)] (by rfl) (At.new1 wr _ _ HU.out _) HL.out HL2.out HB2.out ?_; intro v7 w7 o7 g7 _ r7; have O7 := hide o7; have G7 := hide g7; have R7 := hide r7; clear o7 g7 r7)
      exact ⟨⟨j, by omega, by go_num, hide (by rw [← HE2.out]; exact O7.out), hide (HX.out.trans (Grw.ahead (Ext.alloc _ _) (Grw.of G7.out R7.out))), hide (by have := G7.out.size; have := HB2.out; omega)⟩, by simp [intOf]⟩
    · obtain rfl : k = 0 := by omega
      have HV : Hid (l ++ beN (many - 0) (n / 256 ^ 0) = l ++ beN many n) := hide (by simp)
      have i1 : ¬ (0 : Int) ≤ ((0 : Nat) : Int) - 1 := by omega
      have e1 : ((0 : Nat) : Int) - 1 = -1 := by omega
      rw [e1] at i1 ⊢
      clear e1
      go_wp2_with fail
      go_ret
      exact ⟨_, rfl, by rw [← HV.out]; exact HK.out, HX.out⟩
set_option linter.unusedVariables false in
set_option maxRecDepth 100000 in
set_option maxHeartbeats 4000000 in
theorem appendList_any {w : World} {base many : Nat} {v : Value} {l : List UInt8} {A : Option Addr} {n c : Nat} {ns : List Int} (ho : Own w base 5 1 e8 v l) (hbw : base ≤ w.heap.size) (h : At w 1 e64 A n c ns) (hlo : 0 < n → ∀ a, A = some a → some a.block ≠ v.ownBlock) (hmn : many ≤ 1000000) (hn : n ≤ 1000000) (hl : l.length ≤ 100000000) :
    Calls Try.prog 68 #[v, .int .i64 (many : Int), .slice A n c] w (GrGives w base v (l ++ liB many ns)) := by
  have H := hide h
  have HNL := hide h.len
  have HLO := hide hlo
  have HAN := hide (appendNumberG (n := many) (many := 4) (z := 4) ho hbw rfl (by omega) (by omega) (by omega))
  have u0 : IntKind.u64.wrap (many : Int) = (many : Int) := by rw [IntKind.wrap_u64]; omega
  clear ho h hlo
  go_enter Try.func68, Try.ntmps68
  go_wp2_with fail
  with_reducible refine HAN.out.mono ?_
  rintro e w1 ⟨v1, rfl, o1, g1⟩
  have O1 := hide o1
  have G1 := hide g1
  have hbw1 : base ≤ w1.heap.size := Nat.le_trans hbw g1.grown.size
  clear o1 g1 HAN
  go_wp2_with fail
  go_loopw [0, 15] (fun r0 ri wr => ∃ k : Nat, k ≤ n ∧ ri = .int .i64 k ∧ Hid (Own wr base 5 1 e8 r0 (l ++ beN 4 many ++ lsB (ns.take k))) ∧ Hid (Grw w wr v r0)) (fun _ ri _ => n - (intOf ri).toNat)
  case atStart => exact ⟨0, by omega, rfl, hide (by simpa [lsB] using O1.out), G1⟩
  case round =>
    obtain ⟨k, hk, rfl, HO, HX⟩ := hrel
    have hbwr : base ≤ wr.heap.size := Nat.le_trans hbw HX.out.grown.size
    by_cases hlt : k < n
    · obtain ⟨b, off, rfl, _⟩ := H.out.addr (by omega)
      have a0 := (H.out.grow HX.out.grown (HLO.out (by omega))).num hlt
      have HSU : Hid (l ++ beN 4 many ++ lsB (ns.take (k + 1)) = l ++ beN 4 many ++ lsB (ns.take k) ++ beN 8 (u64N (ns.getD k 0))) := hide (by rw [lsB_take (by have := HNL.out; omega)]; simp only [List.append_assoc])
      have hlk : (l ++ beN 4 many ++ lsB (ns.take k)).length ≤ 1000000000 := by rw [List.length_append, List.length_append, beN_len, lsB_len, List.length_take]; omega
      have HA8 := hide (appendNumberG (n := u64N (ns.getD k 0)) (many := 8) (z := 8) HO.out hbwr rfl (by omega) (u64N_lt _) hlk)
      have ux := (u64N_cast (ns.getD k 0)).symm
      generalize ns.getD k 0 = x at *
      have i1 : (k : Int) < (n : Int) := by omega
      have i0 : (0 : Int) ≤ (k : Int) := by omega
      have i8 : IntKind.i64.wrap ((k : Int) + 1) = (k : Int) + 1 := by rw [IntKind.wrap_i64]; omega
      clear hlk
      go_wp2_with fail
      with_reducible refine HA8.out.mono ?_
      rintro e w2 ⟨v2, rfl, o2, g2⟩
      have O2 := hide o2
      have G2 := hide g2
      clear o2 g2
      go_wp2_with fail
      exact ⟨⟨k + 1, by omega, by go_num, hide (by rw [HSU.out]; exact O2.out), hide (HX.out.trans G2.out)⟩, by simp [intOf]; omega⟩
    · obtain rfl : k = n := by omega
      have HV : Hid (l ++ beN 4 many ++ lsB (ns.take k) = l ++ liB many ns) := hide (by unfold liB; rw [List.take_of_length_le (by have := HNL.out; omega), List.append_assoc])
      clear hlt
      go_wp2_with fail
      go_ret
      exact ⟨_, rfl, by rw [← HV.out]; exact HO.out, HX.out⟩
set_option linter.unusedVariables false in
set_option maxRecDepth 100000 in
set_option maxHeartbeats 4000000 in
theorem runNumbers_any {A : Option Addr} {n c : Nat} {l : List (Int × Int)} {w : World} (h : At w 2 e2 A n c l) (hn : n ≤ 1000000) :
    Calls Try.prog 69 #[.slice A n c] w fun e w' => ∃ T k tc, e = .returned (.slice T k tc) ∧ At w' 1 e64 T k tc (rnN l) ∧ Ext w w' ∧ ∀ a, T = some a → w.heap.size ≤ a.block := by
  have H := hide h
  have HL := hide h.len
  obtain ⟨i0_, hi0, hz0, hz1, hz2⟩ := info_parts Try.info3
  clear h
  go_enter Try.func69, Try.ntmps69
  go_wp2_with fail
  go_loopw [3, 8] (fun r3 ri wr => ∃ k : Nat, k ≤ n ∧ ri = .int .i64 k ∧ Hid (Own wr w.heap.size 3 1 e64 r3 (rnN (l.take k))) ∧ Hid (Ext w wr)) (fun _ ri _ => n - (intOf ri).toNat)
  case atStart => exact ⟨0, by omega, rfl, hide (by simpa [rnN] using Own.nil _ _ _ _ _), hide (Ext.refl _)⟩
  case round =>
    obtain ⟨k, hk, rfl, HO, HX⟩ := hrel
    by_cases hlt : k < n
    · obtain ⟨b, off, rfl, _⟩ := H.out.addr (by omega)
      obtain ⟨a0, a1⟩ := (H.out.ext HX.out).pair hlt
      have HSU : Hid (rnN (l.take (k + 1)) = rnN (l.take k) ++ [(l.getD k (0, 0)).1, (l.getD k (0, 0)).2]) := hide (rnN_take (by have := HL.out; omega))
      generalize (l.getD k (0, 0)).1 = x at *
      generalize (l.getD k (0, 0)).2 = y at *
      have hlk : (rnN (l.take k)).length = 2 * k := by rw [rnN_len, List.length_take]; have := HL.out; omega
      have i1 : (k : Int) < (n : Int) := by omega
      have i0 : (0 : Int) ≤ (k : Int) := by omega
      have i8 : IntKind.i64.wrap ((k : Int) + 1) = (k : Int) + 1 := by rw [IntKind.wrap_i64]; omega
      have S1 : Hid ((rnN (l.take k)).length + 2 ≤ maxLen) := hide (by rw [hlk]; unfold maxLen; omega)
      have S2 : Hid (((rnN (l.take k)).length + 2) * 8 ≤ 140737488355328) := hide (by rw [hlk]; omega)
      clear hlk
      go_upto_region 5 with (fail)
      refine gen_wpC fun w5 h5 => ?_
      have F5 : Hid (Ext wr w5) := hide (by rw [h5]; exact Ext.alloc _ _)
      have y0 : w5.cell? ⟨wr.heap.size, 0, none⟩ = some (.int .i64 x) := by rw [h5]; exact (Blk.new wr _ _).cell 0
      have y1 : w5.cell? ⟨wr.heap.size, 1, none⟩ = some (.int .i64 y) := by rw [h5]; exact (Blk.new wr _ _).cell 1
      have S3 : Hid (w.heap.size ≤ (w5.alloc (.cells #[.int .i64 x, .int .i64 y] 3)).heap.size) := hide (by have := (Ext.trans HX.out F5.out).size; rw [World.size_alloc]; omega)
      clear h5 a0 a1
      go_wp2_with (at_builtin; refine wpList_append_at _ rfl (.tmp 12) (.tmp 17) 70 rfl w.heap.size 3 i0_ _ 8 Try.underlying70 hi0 hz0 hz1 hz2 rfl (by omega) len_e64 one_e64 _ _ (by rfl) (HO.out.ext (Ext.trans F5.out (Ext.alloc _ _))) (some ⟨w5.heap.size, 0, none⟩) 2 2 [x, y] (by rfl) (At.newI2 w5 x y _) S1.out S2.out S3.out ?_; intro v7 w7 o7 g7 _ _; have O7 := hide o7; have G7 := hide g7; clear o7 g7)
      have E7 : Hid (Ext w w7) := hide (Own.below (HO.out.ext (Ext.trans F5.out (Ext.alloc _ _))) (Ext.trans HX.out (Ext.trans F5.out (Ext.alloc _ _))) G7.out (Nat.le_refl _))
      exact ⟨⟨k + 1, by omega, by go_num, hide (by rw [HSU.out]; exact O7.out), E7⟩, by simp [intOf]; omega⟩
    · obtain rfl : k = n := by omega
      obtain ⟨vA, vc, hv, hat⟩ := HO.out.at_ len_e64
      have HAT := hide hat
      have HLT := HO.out.lt
      have HTK : Hid (l.take k = l) := hide (List.take_of_length_le (by have := HL.out; omega))
      subst hv
      clear hlt hat
      go_wp2_with fail
      go_ret
      have HAT2 := HAT.out
      rw [HTK.out] at HAT2 ⊢
      exact ⟨_, _, _, rfl, HAT2, HX.out, fun a ha => by subst ha; exact (HLT a.block rfl).1⟩
end Go.Proofs.Ytlonhkjplijlcaa
