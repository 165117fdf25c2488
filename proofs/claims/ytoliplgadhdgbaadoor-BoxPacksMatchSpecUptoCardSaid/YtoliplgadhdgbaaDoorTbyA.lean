/- Walks: appendList, runNumbers (program). Conditions as stated. -/
import Derived.Test.YtoliplgadhdgbaaDoorNumA
import Derived.Test.YtoliplgadhdgbaaDoorTabB
import Derived.Test.YtoliplgadhdgbaaDoorLstA
namespace Go.Proofs.YtoliplgadhdgbaaDoor
open Go.RowKit
/-- Numbers as bytes, eight each. -/
def u64N (x : Int) : Nat := (IntKind.u64.wrap x).toNat
def lsB (l : List Int) : List UInt8 := l.flatMap fun x => beN 8 (u64N x)
def liB (many : Nat) (l : List Int) : List UInt8 := beN 4 many ++ lsB l
def rnN (l : List (Int × Int)) : List Int := l.flatMap fun r => [r.1, r.2]
theorem u64N_cast (x : Int) : ((u64N x : Nat) : Int) = IntKind.u64.wrap x := by unfold u64N; rw [IntKind.wrap_u64]; omega
theorem u64N_lt (x : Int) : u64N x < 18446744073709551616 := by unfold u64N; rw [IntKind.wrap_u64]; omega
theorem lsB_len (l : List Int) : (lsB l).length = 8 * l.length := by
  induction l with
  | nil => rfl
  | cons x xs ih => unfold lsB at ih ⊢; rw [List.flatMap_cons, List.length_append, ih, List.length_cons, beN_len]; omega
theorem lsB_take {l : List Int} {k : Nat} (h : k < l.length) : lsB (l.take (k + 1)) = lsB (l.take k) ++ beN 8 (u64N (l.getD k 0)) := by
  unfold lsB; rw [getD_take l k 0 h, List.flatMap_append]; simp
theorem rnN_len (l : List (Int × Int)) : (rnN l).length = 2 * l.length := by
  induction l with
  | nil => rfl
  | cons x xs ih => unfold rnN at ih ⊢; rw [List.flatMap_cons, List.length_append, ih, List.length_cons]; simp; omega
theorem rnN_take {l : List (Int × Int)} {k : Nat} (h : k < l.length) : rnN (l.take (k + 1)) = rnN (l.take k) ++ [(l.getD k (0, 0)).1, (l.getD k (0, 0)).2] := by
  unfold rnN; rw [getD_take l k (0, 0) h, List.flatMap_append]; simp
theorem At.newI2 (w : World) (x y : Int) (t : TypeId) : At (w.alloc (.cells #[.int .i64 x, .int .i64 y] t)) 1 e64 (some ⟨w.heap.size, 0, none⟩) 2 2 [x, y] :=
  ⟨rfl, Nat.le_refl _, by unfold maxLen; omega, fun h => (by cases h), fun k z hz => ⟨_, _, rfl, fun j u hu => by
    have hb := Blk.new w t #[.int .i64 x, .int .i64 y]
    match k, hz with
    | 0, hz =>
      simp at hz; subst hz
      match j, hu with
      | 0, hu => simp at hu; subst hu; exact hb.cell 0
      | j + 1, hu => simp at hu
    | 1, hz =>
      simp at hz; subst hz
      match j, hu with
      | 0, hu => simp at hu; subst hu; exact hb.cell 1
      | j + 1, hu => simp at hu
    | k + 2, hz => simp at hz⟩⟩
set_option linter.unusedVariables false in
set_option maxRecDepth 100000 in
set_option maxHeartbeats 4000000 in
/-- A row that has grown: its old block, or a new one. -/
structure Grw (w w' : World) (v v' : Value) : Prop where
  grown : w.grownBy w' v.ownBlock
  row : v'.ownBlock = v.ownBlock ∨ ∃ g, v'.ownBlock = some g ∧ w.heap.size ≤ g
theorem Grw.refl (w : World) (v : Value) : Grw w w v v := ⟨World.grownBy.refl w _, .inl rfl⟩
theorem Grw.trans {a b c : World} {u v x : Value} (h : Grw a b u v) (k : Grw b c v x) : Grw a c u x := by
  refine ⟨⟨k.grown.os.trans h.grown.os, k.grown.tape.trans h.grown.tape, k.grown.output.trans h.grown.output, Nat.le_trans h.grown.size k.grown.size, fun q hq hr => (k.grown.block q (Nat.lt_of_lt_of_le hq h.grown.size) (fun e => ?_)).trans (h.grown.block q hq hr)⟩, ?_⟩
  · rcases h.row with h1 | ⟨g, h1, h2⟩
    · exact hr (e.trans h1)
    · rw [h1] at e; have := Option.some.inj e; omega
  · rcases k.row with h1 | ⟨g, h1, h2⟩
    · rcases h.row with h3 | ⟨g, h3, h4⟩
      · exact .inl (h1.trans h3)
      · exact .inr ⟨g, h1.trans h3, h4⟩
    · exact .inr ⟨g, h1, Nat.le_trans h.grown.size h2⟩
theorem Grw.ahead {a b c : World} {u v : Value} (h : Ext a b) (k : Grw b c u v) : Grw a c u v :=
  ⟨⟨k.grown.os.trans h.os, k.grown.tape.trans h.tape, k.grown.output.trans h.output, Nat.le_trans h.size k.grown.size, fun q hq hr => (k.grown.block q (Nat.lt_of_lt_of_le hq h.size) hr).trans (h.block q hq)⟩, by
    rcases k.row with h1 | ⟨g, h1, h2⟩
    · exact .inl h1
    · exact .inr ⟨g, h1, Nat.le_trans h.size h2⟩⟩
theorem Grw.of {w w' : World} {v v' : Value} (hg : w.grownBy w' v.ownBlock) (hr : v'.ownBlock = v.ownBlock ∨ v'.ownBlock = some w.heap.size) : Grw w w' v v' :=
  ⟨hg, by rcases hr with h | h
          · exact .inl h
          · exact .inr ⟨_, h, Nat.le_refl _⟩⟩
theorem At.grow {α : Type} {w w' : World} {sz : Nat} {enc : α → List Value} {A : Option Addr} {n c : Nat} {xs : List α} {row : Option Nat} (h : At w sz enc A n c xs) (hg : w.grownBy w' row) (hr : ∀ a, A = some a → some a.block ≠ row) : At w' sz enc A n c xs :=
  ⟨h.len, h.le, h.max, h.none_, fun k x hx => by
    obtain ⟨b, off, e, hc⟩ := h.cells k x hx
    have h2 := hr _ e
    refine ⟨b, off, e, fun j u hu => ?_⟩
    have h3 := hc j u hu
    have h4 := hg.block b (by have := cell_lt h3; simpa using this) h2
    unfold World.cell? at h3 ⊢
    simp only at h3 ⊢
    rw [h4]
    exact h3⟩
/-- What an append of bytes to an own row gives. -/
def GrGives (w : World) (base : Nat) (v : Value) (l : List UInt8) (e : Ending) (w' : World) : Prop := ∃ v', e = .returned v' ∧ Own w' base 5 1 e8 v' l ∧ Grw w w' v v'
set_option linter.unusedVariables false in
set_option maxRecDepth 100000 in
set_option maxHeartbeats 2000000 in
theorem appendNumberG {w : World} {base many n : Nat} {z : Int} {v : Value} {l : List UInt8} (ho : Own w base 5 1 e8 v l) (hbw : base ≤ w.heap.size) (hz : (many : Int) = z) (hm : many ≤ 8) (hn : n < 18446744073709551616) (hl : l.length ≤ 1000000000) :
    Calls Tryd.prog 32 #[v, .int .u64 (n : Int), .int .i64 z] w (GrGives w base v (l ++ beN many n)) := by
  subst hz
  have HO := hide ho
  clear ho
  go_enter Tryd.func32, Tryd.ntmps32
  go_wp2_with fail
  go_loopw [0, 7] (fun r0 r7 wr => ∃ k : Nat, k ≤ many ∧ r7 = .int .i64 ((k : Int) - 1) ∧ Hid (Own wr base 5 1 e8 r0 (l ++ beN (many - k) (n / 256 ^ k))) ∧ Hid (Grw w wr v r0) ∧ Hid (base ≤ wr.heap.size)) (fun _ r7 _ => ((intOf r7) + 1).toNat)
  case atStart => exact ⟨many, by omega, by go_num, hide (by rw [Nat.sub_self]; simpa [beN] using HO.out), hide (Grw.refl _ _), hide hbw⟩
  case round =>
    obtain ⟨k, hk, rfl, HK, HX, HBW⟩ := hrel
    by_cases h0 : 0 < k
    · obtain ⟨j, rfl⟩ : ∃ j, k = j + 1 := ⟨k - 1, by omega⟩
      have e1 : ((j + 1 : Nat) : Int) - 1 = (j : Int) := by omega
      rw [e1]
      have i1 : (0 : Int) ≤ (j : Int) := by omega
      have i2 : IntKind.i64.wrap (8 * (j : Int)) = 8 * (j : Int) := by rw [IntKind.wrap_i64]; omega
      have HU : Hid (e8 (UInt8.ofNat (n / 256 ^ j)) = [.int .u8 ((n : Int) / 2 ^ (8 * j) % 256)]) := hide (e8_byte n j)
      have HL : Hid ((l ++ beN (many - (j + 1)) (n / 256 ^ (j + 1))).length + 1 ≤ maxLen) := hide (by rw [List.length_append, beN_len]; unfold maxLen; omega)
      have HL2 : Hid (((l ++ beN (many - (j + 1)) (n / 256 ^ (j + 1))).length + 1) * 1 ≤ 140737488355328) := hide (by rw [List.length_append, beN_len]; omega)
      have HB2 : Hid (base ≤ (wr.alloc (.cells #[.int .u8 ((n : Int) / 2 ^ (8 * j) % 256)] 5)).heap.size) := hide (by rw [World.size_alloc]; have := HBW.out; omega)
      have HE2 : Hid (l ++ beN (many - (j + 1)) (n / 256 ^ (j + 1)) ++ [UInt8.ofNat (n / 256 ^ j)] = l ++ beN (many - j) (n / 256 ^ j)) := hide (by rw [beN_step n j many (by omega), List.append_assoc])
      obtain ⟨i0_, hi0, hz0, hz1, hz2⟩ := info_parts Tryd.info5
      clear e1
      go_wp2_with (at_builtin; refine wpList_append_at _ rfl (.tmp 14) (.tmp 20) 23 rfl base 5 i0_ _ 1 Tryd.underlying23 hi0 hz0 hz1 hz2 rfl (by omega) len_e8 one_e8 u0 _ (by rfl) (HK.out.ext (Ext.alloc _ _)) (some ⟨wr.heap.size, 0, none⟩) 1 1 [UInt8.ofNat (n / 256 ^ j)] (by rfl) (At.new1 wr _ _ HU.out _) HL.out HL2.out HB2.out ?_; intro v7 w7 o7 g7 _ r7; have O7 := hide o7; have G7 := hide g7; have R7 := hide r7; clear o7 g7 r7)
      exact ⟨⟨j, by omega, by go_num, hide (by rw [← HE2.out]; exact O7.out), hide (HX.out.trans (Grw.ahead (Ext.alloc _ _) (Grw.of G7.out R7.out))), hide (by have := G7.out.size; have := HB2.out; omega)⟩, by simp [intOf]⟩
    · obtain rfl : k = 0 := by omega
      have HV : Hid (l ++ beN (many - 0) (n / 256 ^ 0) = l ++ beN many n) := hide (by simp)
      have i1 : ¬ (0 : Int) ≤ ((0 : Nat) : Int) - 1 := by omega
      have e1 : ((0 : Nat) : Int) - 1 = -1 := by omega
      rw [e1] at i1 ⊢
      clear e1
      go_wp2_with fail
      go_ret
      exact ⟨_, rfl, by rw [← HV.out]; exact HK.out, HX.out⟩
end Go.Proofs.YtoliplgadhdgbaaDoor
