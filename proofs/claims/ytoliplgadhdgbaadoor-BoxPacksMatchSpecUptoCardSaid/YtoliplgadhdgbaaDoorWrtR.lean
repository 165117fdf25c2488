/- Walk: written (reference). Conditions as stated. -/
import Derived.Test.YtoliplgadhdgbaaDoorNumA
import Derived.Test.YtoliplgadhdgbaaDoorMem
import Derived.Test.YtoliplgadhdgbaaDoorMade
namespace Go.Proofs.YtoliplgadhdgbaaDoor
open Go.RowKit
/-- A number as 64 bits without a sign. -/
def u64n (x : Int) : Nat := (IntKind.u64.wrap x).toNat
theorem u64n_lt (x : Int) : u64n x < 18446744073709551616 := by unfold u64n; rw [IntKind.wrap_u64]; omega
theorem u64n_val (x : Int) : IntKind.u64.wrap x = (u64n x : Int) := by unfold u64n; rw [IntKind.wrap_u64]; omega
theorem u64n_pos {x : Int} (h0 : 0 ≤ x) (h1 : x < 18446744073709551616) : u64n x = x.toNat := by unfold u64n; rw [IntKind.wrap_u64]; omega
theorem beN_more (n many : Nat) : ∀ j, beN (j + many) n = beN j (n / 256 ^ many) ++ beN many n := by
  intro j
  induction many generalizing n with
  | zero => simp [beN]
  | succ m ih => rw [show j + (m + 1) = (j + m) + 1 by omega, beN, ih, beN, Nat.div_div_eq_div_mul, ← List.append_assoc, Nat.pow_succ, Nat.mul_comm]
/-- What is made out of nought, the last byte first. -/
def wrtL (many n k : Nat) : List UInt8 := List.replicate k 0 ++ beN (many - k) n
theorem wrtL_all (many n : Nat) : wrtL many n many = List.replicate many 0 := by unfold wrtL; rw [Nat.sub_self]; simp [beN]
theorem wrtL_none (many n : Nat) : wrtL many n 0 = beN many n := by unfold wrtL; simp
theorem wrtL_len {many n k : Nat} (h : k ≤ many) : (wrtL many n k).length = many := by unfold wrtL; rw [List.length_append, List.length_replicate, beN_len]; omega
theorem wrtL_set {many n k : Nat} (h : k + 1 ≤ many) : (wrtL many n (k + 1)).set k (UInt8.ofNat (n / 256 ^ (many - (k + 1)))) = wrtL many n k := by
  unfold wrtL
  have e1 : List.replicate (k + 1) (0 : UInt8) = List.replicate k 0 ++ [0] := by rw [List.replicate_succ']
  have e2 : beN (many - k) n = [UInt8.ofNat (n / 256 ^ (many - (k + 1)))] ++ beN (many - (k + 1)) n := by
    have := beN_more n (many - (k + 1)) 1
    rw [show 1 + (many - (k + 1)) = many - k by omega] at this
    rw [this]; rfl
  rw [e1, e2, List.append_assoc, List.set_append]
  simp
set_option linter.unusedVariables false in
set_option maxRecDepth 100000 in
set_option maxHeartbeats 2000000 in
theorem written_any {w : World} {many : Nat} {x : Int} (hm : many ≤ 8) :
    Calls Tryd.prog 26 #[.int .i64 x, .int .i64 (many : Int)] w fun e w' => ∃ g, e = .returned (.slice (some ⟨g, 0, none⟩) many many) ∧ Own w' w.heap.size 5 1 e8 (.slice (some ⟨g, 0, none⟩) many many) (beN many (u64n x)) ∧ Ext w w' := by
  have hw := u64n_val x
  have hlt := u64n_lt x
  generalize u64n x = n at *
  obtain ⟨i0_, hi0, hz0, hz1, hz2⟩ := info_parts Tryd.info5
  have hmk := made_run (P := Tryd.prog) 23 5 i0_ (.int .u8 0) Tryd.underlying23 hi0 hz0 (sz := 1) hz1 (bytes := 1) hz2 many (by omega) (by omega)
  have HO : Hid (Own (w.alloc (.cells (madeCells #[.int .u8 0] many) 5)) w.heap.size 5 1 e8 (.slice (some ⟨w.heap.size, 0, none⟩) many many) (List.replicate many (0 : UInt8))) := hide (by have := made_own (enc := e8) (x := (0 : UInt8)) (t := 5) (z := #[Value.int .u8 0]) (sz := 1) rfl rfl (by omega) w w.heap.size many (Nat.le_refl _) (by unfold maxLen; omega); rwa [Nat.mul_one] at this)
  have HE : Hid (Ext w (w.alloc (.cells (madeCells #[.int .u8 0] many) 5))) := hide (Ext.alloc _ _)
  have HG : Hid (∃ g, g = w.heap.size) := hide ⟨_, rfl⟩
  clear hi0 hz0 hz1 hz2
  go_enter Tryd.func26, Tryd.ntmps26
  go_upto_region 2 with (fail)
  refine gen_wpC fun w1 h1 => ?_
  rw [← h1] at HO HE
  have HS := hide hmk
  clear h1 hmk
  go_wp2_with fail
  go_loopw [6, 7] (fun r6 r7 wr => ∃ k : Nat, k ≤ many ∧ r7 = .int .i64 ((k : Int) - 1) ∧ r6 = .int .u64 ((n / 256 ^ (many - k) : Nat) : Int) ∧ Hid (Own wr w.heap.size 5 1 e8 (.slice (some ⟨w.heap.size, 0, none⟩) many many) (wrtL many n k)) ∧ Hid (Ext w wr)) (fun _ r7 _ => ((intOf r7) + 1).toNat)
  case atStart => exact ⟨many, by omega, by go_num, by rw [Nat.sub_self]; simp, hide (by rw [wrtL_all]; exact HO.out), HE⟩
  case round =>
    obtain ⟨k, hk, rfl, rfl, HK, HX⟩ := hrel
    by_cases h0 : 0 < k
    · obtain ⟨j, rfl⟩ : ∃ j, k = j + 1 := ⟨k - 1, by omega⟩
      have e1 : ((j + 1 : Nat) : Int) - 1 = (j : Int) := by omega
      rw [e1]
      have i1 : (0 : Int) ≤ (j : Int) := by omega
      have i2 : (j : Int) < (many : Int) := by omega
      have HQ : Hid (n / 256 ^ (many - (j + 1)) / 256 = n / 256 ^ (many - j)) := hide (by rw [Nat.div_div_eq_div_mul, ← Nat.pow_succ, show (many - (j + 1)).succ = many - j by omega])
      have HW := hide (wrtL_set (many := many) (n := n) (k := j) (by omega))
      have hq : n / 256 ^ (many - (j + 1)) < 18446744073709551616 := Nat.lt_of_le_of_lt (Nat.div_le_self _ _) hlt
      generalize n / 256 ^ (many - (j + 1)) = q at *
      have HU : Hid (e8 (UInt8.ofNat q) = [.int .u8 ((q : Int) % 256)]) := hide (by
        show [Value.int .u8 ((UInt8.ofNat q).toNat : Int)] = _
        rw [UInt8.toNat_ofNat', Int.natCast_emod]; rfl)
      have z1 : ∀ i, wr.frozen? ⟨w.heap.size, i, none⟩ = false := HK.out.frozen1
      have z2 := z1 j
      obtain ⟨cj, hcj⟩ : ∃ cj, wr.cell? ⟨w.heap.size, j, none⟩ = some cj := by
        have := (HK.out.atS len_e8)
        have h3 := this.cellK (k := j) (by omega) (0 : UInt8) 0 _ rfl
        exact ⟨_, by simpa using h3⟩
      clear e1 z1 hw
      go_wp2_with fail
      exact ⟨⟨j, by omega, by go_num, by rw [← HQ.out]; simp, hide (by rw [← HW.out]; exact HK.out.set1 len_e8 j _ _ HU.out), hide (by have h5 := HK.out.lt _ rfl; have := HX.out; exact ⟨this.os, this.tape, this.output, by have := this.size; simpa using this, fun b hb => (Below.heap_setCell _ ⟨w.heap.size, j, none⟩ _ b (by simp; omega)).trans (this.block b hb)⟩)⟩, by simp [intOf]⟩
    · obtain rfl : k = 0 := by omega
      have HV := hide (wrtL_none many n)
      have i1 : ¬ (0 : Int) ≤ ((0 : Nat) : Int) - 1 := by omega
      have e1 : ((0 : Nat) : Int) - 1 = -1 := by omega
      rw [e1] at i1 ⊢
      clear e1
      go_wp2_with fail
      go_ret
      exact ⟨_, rfl, by rw [← HV.out]; exact HK.out, HX.out⟩
end Go.Proofs.YtoliplgadhdgbaaDoor
