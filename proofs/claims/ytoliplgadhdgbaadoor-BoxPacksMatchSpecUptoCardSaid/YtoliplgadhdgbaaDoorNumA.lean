/- Walk: appendNumber. Conditions as stated. -/
import Derived.Test.YtoliplgadhdgbaaDoorNumP
import Derived.Test.YtoliplgadhdgbaaDoorStep
import Derived.Test.YtoliplgadhdgbaaDoorBoxC
import Derived.Deep.DeepCutAuto
namespace Go.Proofs.YtoliplgadhdgbaaDoor
open Go.RowKit
/-- What an append of bytes to an own row gives. -/
def AppGives (w0 : World) (base : Nat) (l : List UInt8) (e : Ending) (w' : World) : Prop := ∃ v', e = .returned v' ∧ Own w' base 5 1 e8 v' l ∧ Ext w0 w'
theorem e8_byte (n j : Nat) : e8 (UInt8.ofNat (n / 256 ^ j)) = [.int .u8 ((n : Int) / 2 ^ (8 * j) % 256)] := by
  have h1 : ((UInt8.ofNat (n / 256 ^ j)).toNat : Int) = (n : Int) / 2 ^ (8 * j) % 256 := by
    have h2 : (2 : Int) ^ (8 * j) = ((256 ^ j : Nat) : Int) := by rw [Int.pow_mul, Int.natCast_pow]; rfl
    rw [UInt8.toNat_ofNat', h2, Int.natCast_emod, Int.natCast_ediv]
    rfl
  show [Value.int .u8 _] = _
  rw [h1]
theorem O7b {α : Type} {w0 wr w7 : World} {o : Obj} {base : Nat} {t : TypeId} {sz : Nat} {enc : α → List Value} {v : Value} {xs : List α} (hx : Ext w0 wr) (ho : Own wr base t sz enc v xs) (hg : (wr.alloc o).grownBy w7 v.ownBlock) (hb : w0.heap.size ≤ base) : Ext w0 w7 :=
  (ho.ext (Ext.alloc wr o)).below (Ext.trans hx (Ext.alloc _ _)) hg hb
set_option linter.unusedVariables false in
set_option maxRecDepth 100000 in
set_option maxHeartbeats 2000000 in
theorem appendNumber_any {w0 w : World} {base many n : Nat} {v : Value} {l : List UInt8} (ho : Own w base 5 1 e8 v l) (he : Ext w0 w) (hb : w0.heap.size ≤ base) (hbw : base ≤ w.heap.size) (hm : many ≤ 8) (hn : n < 18446744073709551616) (hl : l.length ≤ 1000000000) :
    Calls Tryd.prog 32 #[v, .int .u64 (n : Int), .int .i64 (many : Int)] w (AppGives w0 base (l ++ beN many n)) := by
  have HO := hide ho
  have HE := hide he
  clear ho he
  go_enter Tryd.func32, Tryd.ntmps32
  go_wp2_with fail
  go_loopw [0, 7] (fun r0 r7 wr => ∃ k : Nat, k ≤ many ∧ r7 = .int .i64 ((k : Int) - 1) ∧ Hid (Own wr base 5 1 e8 r0 (l ++ beN (many - k) (n / 256 ^ k))) ∧ Hid (Ext w0 wr) ∧ Hid (base ≤ wr.heap.size)) (fun _ r7 _ => ((intOf r7) + 1).toNat)
  case atStart => exact ⟨many, by omega, by go_num, hide (by rw [Nat.sub_self]; simpa [beN] using HO.out), HE, hide hbw⟩
  case round =>
    obtain ⟨k, hk, rfl, HK, HX, HBW⟩ := hrel
    by_cases h0 : 0 < k
    · obtain ⟨j, rfl⟩ : ∃ j, k = j + 1 := ⟨k - 1, by omega⟩
      have e1 : ((j + 1 : Nat) : Int) - 1 = (j : Int) := by omega
      rw [e1]
      have i1 : (0 : Int) ≤ (j : Int) := by omega
      have i2 : IntKind.i64.wrap (8 * (j : Int)) = 8 * (j : Int) := by rw [IntKind.wrap_i64]; omega
      have HU : Hid (e8 (UInt8.ofNat (n / 256 ^ j)) = [.int .u8 ((n : Int) / 2 ^ (8 * j) % 256)]) := hide (e8_byte n j)
      have HL : Hid ((l ++ beN (many - (j + 1)) (n / 256 ^ (j + 1))).length + 1 ≤ maxLen) := hide (by rw [List.length_append, beN_len]; unfold maxLen; omega)
      have HL2 : Hid (((l ++ beN (many - (j + 1)) (n / 256 ^ (j + 1))).length + 1) * 1 ≤ 140737488355328) := hide (by rw [List.length_append, beN_len]; omega)
      have HB2 : Hid (base ≤ (wr.alloc (.cells #[.int .u8 ((n : Int) / 2 ^ (8 * j) % 256)] 5)).heap.size) := hide (by rw [World.size_alloc]; have := HBW.out; omega)
      have HE2 : Hid (l ++ beN (many - (j + 1)) (n / 256 ^ (j + 1)) ++ [UInt8.ofNat (n / 256 ^ j)] = l ++ beN (many - j) (n / 256 ^ j)) := hide (by rw [beN_step n j many (by omega), List.append_assoc])
      obtain ⟨i0_, hi0, hz0, hz1, hz2⟩ := info_parts Tryd.info5
      clear e1
      go_wp2_with (at_builtin; refine wpList_append_at _ rfl (.tmp 14) (.tmp 20) 23 rfl base 5 i0_ _ 1 Tryd.underlying23 hi0 hz0 hz1 hz2 rfl (by omega) len_e8 one_e8 u0 _ (by rfl) (HK.out.ext (Ext.alloc _ _)) (some ⟨wr.heap.size, 0, none⟩) 1 1 [UInt8.ofNat (n / 256 ^ j)] (by rfl) (At.new1 wr _ _ HU.out _) HL.out HL2.out HB2.out ?_; intro v7 w7 o7 g7 _ r7; have O7 := hide o7; have G7 := hide g7; have R7 := hide r7; clear o7 g7 r7)
      exact ⟨⟨j, by omega, by go_num, hide (by rw [← HE2.out]; exact O7.out), hide (O7b HX.out HK.out G7.out hb), hide (by have := G7.out.size; have := HB2.out; omega)⟩, by simp [intOf]⟩
    · obtain rfl : k = 0 := by omega
      have HV : Hid (l ++ beN (many - 0) (n / 256 ^ 0) = l ++ beN many n) := hide (by simp)
      have i1 : ¬ (0 : Int) ≤ ((0 : Nat) : Int) - 1 := by omega
      have e1 : ((0 : Nat) : Int) - 1 = -1 := by omega
      rw [e1] at i1 ⊢
      clear e1
      go_wp2_with fail
      go_ret
      exact ⟨_, rfl, by rw [← HV.out]; exact HK.out, HX.out⟩
end Go.Proofs.YtoliplgadhdgbaaDoor
