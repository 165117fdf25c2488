/- Walks: slices.Clone and slices.Equal of samples. Conditions as stated. -/
import Derived.Test.YtgnmnhlhiiehfaaSmpA
import Derived.Test.YtgnmnhlhiiehfaaTree
namespace Go.Proofs.Ytgnmnhlhiiehfaa
open Go.RowKit
theorem Try.info40 : (Try.prog.info? 40).map (fun i => (i.zero, i.size, i.bytes)) = some (some (.agg #[.int .i64 0, .int .i64 0, .int .i64 0, .int .i64 0, .bool false]), 5, 40) := by kernel_rfl
set_option maxRecDepth 100000 in
set_option maxHeartbeats 2000000 in
theorem cloneSm_any {A : Option Addr} {n c : Nat} {l : List Smp} {w : World} (h : At w 5 eSm A n c l) (hb : n ≤ 100000000) :
    Calls Try.prog 32 #[.slice A n c] w fun e w' => ∃ A' c', e = .returned (.slice A' n c') ∧ Own w' w.heap.size 40 5 eSm (.slice A' n c') l ∧ Ext w w' := by
  obtain ⟨i0, hi0, hz0, hz1, hz2⟩ := info_parts Try.info40
  have hl := h.len
  have H := hide h
  have HL := hide hl
  clear hl h
  cases A with
  | none =>
    have hn := H.out.none_ rfl
    have hle := H.out.le
    obtain rfl : n = 0 := by omega
    have hc0 : c = 0 := hn
    subst hc0
    have e1 := fun (W : World) => Lib.run_eql_slice_nil (P := Try.prog) W 30 40 none 0 0 0 0 Try.underlying30
    go_enter Try.func32, Try.ntmps32
    obtain rfl : l = [] := List.eq_nil_of_length_eq_zero HL.out
    go_wp2
    go_ret
    exact ⟨none, 0, rfl, Own.nil _ _ _ _ _, Ext.refl _⟩
  | some a =>
    have e1 := fun (W : World) => Lib.run_eql_slice_nil (P := Try.prog) W 30 40 (some a) n c 0 0 Try.underlying30
    go_enter Try.func32, Try.ntmps32
    have o0 : Own (w.alloc (.cells #[] 40)) w.heap.size 40 5 eSm (.slice (some ⟨w.heap.size, 0, none⟩) 0 0) [] :=
      ⟨by simp, .inr ⟨w.heap.size, 0, #[], rfl, Nat.le_refl _, heap_alloc_new w _, Nat.le_refl _, by unfold maxLen; omega, rfl, rfl⟩⟩
    have O0 := hide o0
    clear o0
    go_wp2_with (at_builtin; refine wpList_append_at _ rfl (.tmp 5) (.tmp 6) 30 rfl w.heap.size 40 i0 _ 40 Try.underlying30 hi0 hz0 hz1 hz2 rfl (by omega) len_eSm one_eSm (.slice (some ⟨w.heap.size, 0, none⟩) 0 0) [] rfl O0.out (some a) n c l rfl (H.out.ext (by repeat' (first | (with_reducible exact Below.refl _ _) | (with_reducible assumption) | (with_reducible refine below_drewN ?_ _) | (with_reducible refine Below.drew ?_) | (with_reducible refine ext_alloc ?_ _) | (with_reducible refine Below.setCell ?_ ?_ _) | go_size))) ?b1 ?b2 ?b3 ?_)
    case b1 => simp; have := H.out.max; have := H.out.le; unfold maxLen at *; omega
    case b2 => simp; omega
    case b3 => simp
    intro v3 w3 o3 g3 n3 _
    have o3' : Own w3 w.heap.size 40 5 eSm v3 l := o3
    obtain ⟨A3, c3, hv3, _⟩ := o3'.at_ len_eSm
    rw [HL.out] at hv3
    rw [hv3] at o3' ⊢
    have O3 := hide o3'
    have E3 := hide (O0.out.below (Ext.alloc w (.cells #[] 40)) g3 (Nat.le_refl _))
    clear o3 o3' g3 n3 hv3
    go_wp2
    go_ret
    exact ⟨A3, c3, rfl, O3.out, E3.out⟩
set_option linter.unusedVariables false in
set_option maxRecDepth 100000 in
set_option maxHeartbeats 2000000 in
/-- Two slices that read as one list. -/
theorem smpEq_true {A1 A2 : Option Addr} {n1 c1 n2 c2 : Nat} {l : List Smp} {w : World} (h1 : At w 5 eSm A1 n1 c1 l) (h2 : At w 5 eSm A2 n2 c2 l) :
    Calls Try.prog 15 #[.slice A1 n1 c1, .slice A2 n2 c2] w fun e w' => e = .returned (.bool true) ∧ Ext w w' := by
  obtain rfl : n1 = n2 := h1.len.symm.trans h2.len
  have hb := h1.bound
  have H1 := hide h1; have H2 := hide h2
  clear h1 h2
  go_enter Try.func15, Try.ntmps15
  go_wp2_with fail
  go_loopw [13] (fun ri wr => ∃ k : Nat, k ≤ n1 ∧ ri = .int .i64 k ∧ Hid (Ext w wr)) (fun i _ => n1 - (intOf i).toNat)
  case atStart => exact ⟨0, by omega, rfl, hide (Ext.refl _)⟩
  case round =>
    obtain ⟨k, hk, rfl, HX⟩ := hrel
    by_cases hlt : k < n1
    · obtain ⟨b, off, rfl, _⟩ := H1.out.addr (by omega)
      obtain ⟨b2, off2, rfl, _⟩ := H2.out.addr (by omega)
      have hat := H1.out.ext HX.out
      have hbt := H2.out.ext HX.out
      have a0 := hat.cellK hlt dS 0 _ rfl
      have a1 := hat.cellK hlt dS 1 _ rfl
      have a2 := hat.cellK hlt dS 2 _ rfl
      have a3 := hat.cellK hlt dS 3 _ rfl
      have a4 := hat.cellK hlt dS 4 _ rfl
      have d0 := hbt.cellK hlt dS 0 _ rfl
      have d1 := hbt.cellK hlt dS 1 _ rfl
      have d2 := hbt.cellK hlt dS 2 _ rfl
      have d3 := hbt.cellK hlt dS 3 _ rfl
      have d4 := hbt.cellK hlt dS 4 _ rfl
      rw [Nat.add_zero] at a0 d0
      generalize (l.getD k dS).time = y0 at *
      generalize (l.getD k dS).step = y1 at *
      generalize (l.getD k dS).shift = y2 at *
      generalize (l.getD k dS).size = y3 at *
      generalize (l.getD k dS).key = y4 at *
      have i1 : (k : Int) < (n1 : Int) := by omega
      have i0 : (0 : Int) ≤ (k : Int) := by omega
      clear hat hbt
      go_wp2_with fail
      go_quiet (fail)
      go_wp2
      go_roundw
      case rel => exact ⟨k + 1, by omega, by go_num, below_drewN HX.out _⟩
      case measure => simp [intOf]; omega
    · have hkn : k = n1 := by omega
      clear hkn
      go_wp2
      go_ret
      exact ⟨rfl, HX.out⟩
end Go.Proofs.Ytgnmnhlhiiehfaa
