/- Walk: runs of the program's source. Conditions as stated. -/
import Derived.Test.YtccmbokodifdoaaLstA
import Derived.StillTailTactics
namespace Go.Proofs.Ytccmbokodifdoaa
open Go.RowKit
theorem Try.info84 : (Try.prog.info? 84).map (fun i => (i.zero, i.size, i.bytes)) = some (some (.agg #[.int .i64 0, .int .i64 0]), 2, 16) := by kernel_rfl
/-- What runs gives. -/
def RnGives (w : World) (sb : Nat) (A : Option Addr) (n c : Nat) (l : List (Int × Int)) (q : Rd) (e : Ending) (w' : World) : Prop :=
  ∃ T k tc, e = .returned (.slice T k tc) ∧ At w' 2 e2 T k tc l ∧ Blk w' sb 69 (srcC A n c q) ∧ Tw w w' sb none ∧ ∀ a, T = some a → w.heap.size ≤ a.block
theorem half_lt {i k N : Nat} (hi : i = 2 * k) (h : i + 1 < N) : k + 1 ≤ N / 2 := by omega
set_option linter.unusedVariables false in
set_option maxRecDepth 100000 in
set_option maxHeartbeats 8000000 in
theorem srcRuns_any {sb : Nat} {A : Option Addr} {n c : Nat} {b : List UInt8} {s : Rd} {w : World} (hB : Blk w sb 69 (srcC A n c s)) (h : At w 1 e8 A n c b) (hne : 0 < n → ∀ a, A = some a → a.block ≠ sb) (hp : s.pos ≤ n) (hn : n ≤ 1000000) :
    Calls Try.prog 83 #[.pointer (some ⟨sb, 0, none⟩)] w (RnGives w sb A n c (prL (lsF b 2 s).1) (lsF b 2 s).2) := by
  have HLS := hide (srcList_any hB h hne hp (z := 2) (each := 2) rfl (by omega))
  have hsb := hB.lt
  have hfew := lsH_few b 2 s
  rw [h.len, ← lsF_len] at hfew
  obtain ⟨i0_, hi0, hz0, hz1, hz2⟩ := info_parts Try.info84
  clear hB h hne
  go_enter Try.func83, Try.ntmps83
  go_wp2_with fail
  with_reducible refine HLS.out.mono ?_
  rintro e w1 ⟨T, N, tc, rfl, a1, b1, t1, l1⟩
  have A1 := hide a1
  have B1 := hide b1
  have T1 := hide t1
  have L1 := hide l1
  have hNl := a1.len
  rw [hNl] at hfew
  have hsz1 := t1.size
  generalize (lsF b 2 s).2 = q at *
  generalize (lsF b 2 s).1 = l at *
  have HNL := hide hNl
  clear a1 b1 t1 l1 HLS hNl
  go_wp2_with fail
  go_loopw [4, 5] (fun r4 ri wr => ∃ k i : Nat, i = 2 * k ∧ k ≤ N / 2 ∧ ri = .int .i64 i ∧ Hid (Own wr w1.heap.size 84 2 e2 r4 (prK l k)) ∧ Hid (Ext w1 wr)) (fun _ ri _ => N + 2 - (intOf ri).toNat)
  case atStart => exact ⟨0, 0, rfl, Nat.zero_le _, rfl, hide (Own.nil _ _ _ _ _), hide (Ext.refl _)⟩
  case round =>
    obtain ⟨k, i, hik, hk, rfl, HO, HX⟩ := hrel
    have i8 : IntKind.i64.wrap ((i : Int) + 1) = (i : Int) + 1 := by rw [IntKind.wrap_i64]; omega
    have i9 : IntKind.i64.wrap ((i : Int) + 2) = (i : Int) + 2 := by rw [IntKind.wrap_i64]; omega
    by_cases hlt : i + 1 < N
    · obtain ⟨bT, oT, rfl, _⟩ := A1.out.addr (by omega)
      have hat := A1.out.ext HX.out
      have a0 := hat.num (k := i) (by omega)
      have a1 := hat.num (k := i + 1) (by omega)
      have HSU : Hid (prK l (k + 1) = prK l k ++ [(l.getD i 0, l.getD (i + 1) 0)]) := hide (by rw [prK_succ, hik])
      have c0 := A1.out.num (k := i) (by omega)
      have c1 := A1.out.num (k := i + 1) (by omega)
      generalize l.getD i 0 = x at *
      generalize l.getD (i + 1) 0 = y at *
      have i1 : (i : Int) + 1 < (N : Int) := by omega
      have i2 : (i : Int) < (N : Int) := by omega
      have i0 : (0 : Int) ≤ (i : Int) := by omega
      have i3 : ((i : Int) + 1).toNat = i + 1 := by omega
      have i4 : (0 : Int) ≤ (i : Int) + 1 := by omega
      have hlk : (prK l k).length = k := prK_len _ _
      have S1 : Hid ((prK l k).length + 1 ≤ maxLen) := hide (by rw [hlk]; unfold maxLen; omega)
      have S2 : Hid (((prK l k).length + 1) * 16 ≤ 140737488355328) := hide (by rw [hlk]; omega)
      have S3 : Hid (w1.heap.size ≤ (wr.drew.alloc (.cells #[.int .i64 x, .int .i64 y] 84)).heap.size) := hide (by have := HX.out.size; rw [World.size_alloc]; show w1.heap.size ≤ wr.heap.size + 1; omega)
      have HK := hide (And.intro hik (half_lt hik hlt))
      clear hat hlk hik
      go_upto_region 6 with (fail)
      go_region_held3 (fun w' => w'.cell? ⟨bT, oT + i, none⟩ = some (.int .i64 x) ∧ w'.cell? ⟨bT, oT + (i + 1), none⟩ = some (.int .i64 y)) (first | go_keep | exact ⟨(Ext.alloc _ _).cell a0, (Ext.alloc _ _).cell a1⟩ | exact ⟨E7.cell c0, E7.cell c1⟩) (first
        | ((refine step_append_at rfl (.tmp 15) (.tmp 26) 35 rfl w1.heap.size 84 i0_ _ 16 Try.underlying35 hi0 hz0 hz1 hz2 rfl (by omega) len_e2 one_e2 _ _ (by simp [Act.eval]) (HO.out.ext (Ext.trans (Ext.drew _) (Ext.alloc _ _))) (some ⟨wr.drew.heap.size, 0, none⟩) 1 1 [(x, y)] (by simp [Act.eval]) (At.pair1 wr.drew x y _) S1.out S2.out S3.out ?_); intro v7 w7 o7 g7 _ _; have O7 := hide o7; have E7 : Ext w1 w7 := Own.below (HO.out.ext (Ext.trans (Ext.drew _) (Ext.alloc _ _))) (Ext.trans HX.out (Ext.trans (Ext.drew _) (Ext.alloc _ _))) g7 (Nat.le_refl _); clear o7 g7))
      all_goals go_wp2_with fail
      exact ⟨⟨k + 1, i + 2, by have := HK.out.1; omega, HK.out.2, by go_num, hide (by rw [HSU.out]; exact O7.out), hide E7⟩, by simp [intOf]; omega⟩
    · have hk2 : k = N / 2 := by omega
      have i1 : ¬ (i : Int) + 1 < (N : Int) := by omega
      have HE : Hid (prL l = prK l k) := hide (by unfold prL; rw [HNL.out, hk2])
      have HKK := hide hk2
      clear hk2
      obtain ⟨vA, vc, hv, hat⟩ := HO.out.at_ len_e2
      have HAT := hide hat
      have HLT := HO.out.lt
      subst hv
      clear hlt hat
      go_wp2_with fail
      go_ret
      rw [HE.out]
      exact ⟨_, _, _, rfl, HAT.out, B1.out.ext HX.out, T1.out.trans (Tw.of_ext HX.out _ _), fun a ha => by subst ha; have := (HLT a.block rfl).1; omega⟩
end Go.Proofs.Ytccmbokodifdoaa
