/- Walks of slices.Grow at nil and slices.Concat of two lists of bytes. Conditions: a bound on what they have together. -/
import Derived.Test.YtifmgngmkajahaaKeyI
import Derived.Lib.AppendZerosOnto
import Derived.Lib.SliceRun
namespace Go.Proofs.Ytifmgngmkajahaa
open Go.RowKit Kc Go.Lib

set_option maxHeartbeats 2000000 in
set_option maxRecDepth 100000 in
theorem grow_nil (n : Nat) (hn : n ≤ 140737488355328) (w : World) :
    Calls Try.prog 97 #[.slice none 0 0, .int .i64 n] w fun e w' => ∃ v, e = .returned v ∧ Own w' w.heap.size 5 1 e8 v [] ∧ Ext w w' := by
  obtain ⟨i0, hi0, hz0, hz1, hz2⟩ := info_parts Try.info5
  by_cases h0 : n = 0
  · subst h0
    go_enter Try.func97, Try.ntmps97
    go_wp2
    go_ret
    exact ⟨_, rfl, Own.nil _ _ _ _ _, Ext.refl _⟩
  · have h1 : (n : Int) > 0 := by omega
    have hold : (Builtin.firstCells i0.size 0 (.slice none 0 0)).run Try.prog w.drew = .ok ([] : List Value).toArray w.drew := run_firstCells_none w.drew i0.size 0 0 0
    have hrz : ∀ ty, (Builtin.append_ #[22, 3] ty #[.slice none 0 0, .int .i64 (n : Int)]).run Try.prog w =
        .ok (.slice (some ⟨w.heap.size, 0, none⟩) n (grownCap w n 0 5)) (w.drew.alloc (.cells (([] : List Value).toArray ++ Builtin.zeroCells (Value.int .u8 0).cells n ++ Builtin.zeroCells (Value.int .u8 0).cells (grownCap w n 0 5 - n)) 5)) := fun ty => by
      have h := Lib.run_append_grow_zeros w 22 3 ty 5 i0 (.int .u8 0) .i64 .i64 Try.underlying22 Try.underlying3 hi0 hz0 none 0 0 [] hold n (by omega) (by omega) (by omega) (by omega) (by rw [hz2]; omega) (by rw [Nat.zero_add]; exact growslice_fits (by omega) (by rw [hz2]; omega))
      simpa using h
    have hG1 : n ≤ grownCap w n 0 5 := grownCap_ge w _ _ _
    have hG2 := grownCap_le_maxLen w n 0 5 (by unfold maxLen; omega)
    generalize grownCap w n 0 5 = G at *
    have hG3 : G ≤ 9223372036854775807 := by unfold maxLen at hG2; omega
    have HM := hide hG2
    clear hold hG2
    have hO : Own (w.alloc (.cells (Builtin.zeroCells #[Value.int .u8 0] n ++ Builtin.zeroCells #[Value.int .u8 0] (G - n)) 5)).drew w.heap.size 5 1 e8 (.slice (some ⟨w.heap.size, 0, none⟩) 0 G) [] := by
      refine ⟨by simp, .inr ⟨w.heap.size, G, _, rfl, Nat.le_refl _, heap_alloc_new w _, Nat.zero_le _, HM.out, ?_, by simp⟩⟩
      simp [Builtin.zeroCells]
      omega
    have HO := hide hO
    clear hO
    go_enter Try.func97, Try.ntmps97
    go_wp2_with (at_builtin; refine Lib.wpList_append_run _ rfl _ _ _ _ rfl _ _ rfl rfl _ _ (hrz _) ?_)
    all_goals (go_ret; exact ⟨.slice (some ⟨w.heap.size, 0, none⟩) 0 G, rfl, HO.out, Below.drew (ext_alloc (Ext.refl _) _)⟩)

set_option maxHeartbeats 4000000 in
set_option maxRecDepth 100000 in
theorem concat2_any {Aa Ab : Option Addr} {na ca nb cb g : Nat} {la lb : List UInt8} {w : World} (h0 : w.cell? ⟨g, 0, none⟩ = some (.slice Aa na ca)) (h1 : w.cell? ⟨g, 1, none⟩ = some (.slice Ab nb cb))
    (ha : At w 1 e8 Aa na ca la) (hb : At w 1 e8 Ab nb cb lb) (hn : na + nb ≤ 140737488355328) :
    Calls Try.prog 40 #[.slice (some ⟨g, 0, none⟩) 2 2] w fun e w' => ∃ v, e = .returned v ∧ Own w' w.heap.size 5 1 e8 v (la ++ lb) ∧ Ext w w' := by
  obtain ⟨i0, hi0, hz0, hz1, hz2⟩ := info_parts Try.info5
  have hla := hide ha.len; have hlb := hide hb.len
  have HA := hide ha; have HB := hide hb; have C0 := hide h0; have C1 := hide h1
  clear ha hb
  go_enter Try.func40, Try.ntmps40
  go_wp2_with fail
  go_loop [3, 11] (fun rs ri => ∃ k s : Nat, k ≤ 2 ∧ ri = .int .i64 k ∧ rs = .int .i64 s ∧ Hid (k = 0 ∧ s = 0 ∨ k = 1 ∧ s = na ∨ k = 2 ∧ s = na + nb)) (fun _ i => 2 - (intOf i).toNat)
  case atStart => exact ⟨0, 0, by omega, rfl, rfl, hide (.inl ⟨rfl, rfl⟩)⟩
  case round =>
    obtain ⟨k, s, hk, rfl, rfl, HS⟩ := hrel
    rcases HS.out with ⟨rfl, rfl⟩ | ⟨rfl, hs⟩ | ⟨rfl, rfl⟩
    · clear HS
      go_wp2
      go_round
      case rel => exact ⟨1, na, by omega, by go_num, by first | rfl | go_num, hide (.inr (.inl ⟨rfl, rfl⟩))⟩
      case measure => simp [intOf]
    · have hsb : s + nb ≤ 140737488355328 := by omega
      have HS2 := hide hs
      clear HS hs
      go_wp2
      go_round
      case rel => exact ⟨2, s + nb, by omega, by go_num, by first | rfl | go_num, hide (.inr (.inr ⟨rfl, by rw [HS2.out]⟩))⟩
      case measure => simp [intOf]
    · clear HS
      go_wp2_with fail
      have hg := grow_nil (na + nb) hn w
      rw [Int.natCast_add] at hg
      refine hg.mono ?_
      rintro e w1 ⟨v1, rfl, o1, e1⟩
      have O1 := hide o1; have E1 := hide e1
      have c0 := e1.cell C0.out
      have c1 := e1.cell C1.out
      have K0 := hide c0; have K1 := hide c1
      clear o1 e1 h0 h1 hg c0 c1
      go_wp2_with fail
      go_loopw [6, 27] (fun rv ri wr => ∃ (k : Nat) (v : Value) (l : List UInt8), k ≤ 2 ∧ rv = v ∧ ri = .int .i64 k ∧ Hid (Own wr w.heap.size 5 1 e8 v l) ∧ Hid (Ext w wr) ∧ Hid (k = 0 ∧ l = [] ∨ k = 1 ∧ l = la ∨ k = 2 ∧ l = la ++ lb)) (fun _ ri _ => 2 - (intOf ri).toNat)
      case atStart => exact ⟨0, v1, [], by omega, rfl, rfl, O1.out, E1.out, hide (.inl ⟨rfl, rfl⟩)⟩
      case round =>
        obtain ⟨k, v, l, hk, rfl, rfl, HO, HX, HS⟩ := hrel
        rcases HS.out with ⟨rfl, hl⟩ | ⟨rfl, hl⟩ | ⟨rfl, hl⟩
        · have d0 := HX.out.cell C0.out
          have HL := hide hl
          clear HS hl
          go_wp2_with (at_builtin; refine wpList_append_at _ rfl (.tmp 31) (.tmp 32) 22 rfl w.heap.size 5 i0 _ 1 Try.underlying22 hi0 hz0 hz1 hz2 rfl (by omega) len_e8 one_e8 _ l rfl HO.out Aa na ca la rfl (HA.out.ext HX.out) ?b1 ?b2 HX.out.size ?_)
          case b1 => rw [HL.out]; simp; unfold maxLen; omega
          case b2 => rw [HL.out]; simp; omega
          intro v3 w3 o3 g3 _ _
          have O3 := hide o3
          have E3 : Hid (Ext w w3) := hide (HO.out.below HX.out g3 (Nat.le_refl _))
          clear o3 g3 d0
          go_wp2
          go_roundw
          case rel =>
            first
              | exact ⟨1, v3, l ++ la, by omega, rfl, by go_num, O3.out, E3.out, hide (.inr (.inl ⟨rfl, by rw [HL.out]; rfl⟩))⟩
              | ((repeat apply Exists.intro); exact ⟨⟨1, v3, l ++ la, by omega, rfl, by go_num, O3.out, E3.out, hide (.inr (.inl ⟨rfl, by rw [HL.out]; rfl⟩))⟩, rfl⟩)
          case measure => simp [intOf]
        · have d1 := HX.out.cell C1.out
          have HL := hide hl
          clear HS hl
          go_wp2_with (at_builtin; refine wpList_append_at _ rfl (.tmp 31) (.tmp 32) 22 rfl w.heap.size 5 i0 _ 1 Try.underlying22 hi0 hz0 hz1 hz2 rfl (by omega) len_e8 one_e8 _ l rfl HO.out Ab nb cb lb rfl (HB.out.ext HX.out) ?b1 ?b2 HX.out.size ?_)
          case b1 => rw [HL.out, hla.out]; unfold maxLen; omega
          case b2 => rw [HL.out, hla.out]; omega
          intro v3 w3 o3 g3 _ _
          have O3 := hide o3
          have E3 : Hid (Ext w w3) := hide (HO.out.below HX.out g3 (Nat.le_refl _))
          clear o3 g3 d1
          go_wp2
          go_roundw
          case rel =>
            first
              | exact ⟨2, v3, l ++ lb, by omega, rfl, by go_num, O3.out, E3.out, hide (.inr (.inr ⟨rfl, by rw [HL.out]⟩))⟩
              | ((repeat apply Exists.intro); exact ⟨⟨2, v3, l ++ lb, by omega, rfl, by go_num, O3.out, E3.out, hide (.inr (.inr ⟨rfl, by rw [HL.out]⟩))⟩, rfl⟩)
          case measure => simp [intOf]
        · have HL := hide hl
          clear HS hl
          go_wp2
          go_ret
          exact ⟨_, rfl, by rw [← HL.out]; exact HO.out, HX.out⟩
end Go.Proofs.Ytifmgngmkajahaa
