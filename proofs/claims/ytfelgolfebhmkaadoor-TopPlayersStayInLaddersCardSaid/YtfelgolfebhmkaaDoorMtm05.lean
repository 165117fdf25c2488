/- Walks of the ladder: CheckCrowd at one viewer; slices.ContainsFunc of rungs with a name that none has. Conditions as stated. -/
import Derived.Test.YtfelgolfebhmkaaDoorMtm03
import Derived.Test.YtfelgolfebhmkaaDoorMtm04
namespace Go.Proofs.YtfelgolfebhmkaaDoor
open Go.RowKit
set_option linter.unusedVariables false in
set_option linter.unusedSimpArgs false in
set_option maxRecDepth 100000 in
set_option maxHeartbeats 8000000 in
theorem crowd_any {g c : Nat} {vr : Int} {w : World} (v0 : w.cell? ⟨g, 0, none⟩ = some (.int .i64 vr)) (v1 : w.cell? ⟨g, 1, none⟩ = some (.int .i64 1)) (v2 : w.cell? ⟨g, 2, none⟩ = some (.int .i64 1)) (hv : 0 ≤ vr ∧ vr ≤ 1000000000) :
    Calls Tryd.prog 20 #[.slice (some ⟨g, 0, none⟩) 1 c] w fun e w' => e = .returned (.int .i64 0) ∧ Ext w w' := by
  have V0 := hide v0
  have V1 := hide v1
  have V2 := hide v2
  clear v0 v1 v2
  go_enter Tryd.func20, Tryd.ntmps20
  go_wp2_with fail
  go_loopw [10] (fun ri wr => ∃ k : Nat, k ≤ 1 ∧ ri = .int .i64 k ∧ Hid (Ext w wr)) (fun ri _ => 1 - (intOf ri).toNat)
  case atStart => exact ⟨0, by omega, rfl, hide (Ext.refl _)⟩
  case round =>
    obtain ⟨k, hk, rfl, HX⟩ := hrel
    by_cases hlt : k < 1
    · obtain rfl : k = 0 := by omega
      have v0 : wr.cell? ⟨g, 0, none⟩ = some (.int .i64 vr) := HX.out.cell V0.out
      have v1 : wr.cell? ⟨g, 1, none⟩ = some (.int .i64 1) := HX.out.cell V1.out
      have v2 : wr.cell? ⟨g, 2, none⟩ = some (.int .i64 1) := HX.out.cell V2.out
      go_upto_region 6 with (fail)
      refine gen_wpC fun w2 h2 => ?_
      obtain ⟨q, hq⟩ : ∃ q, q = wr.heap.size := ⟨_, rfl⟩
      rw [← hq]
      have EY : Hid (Ext wr w2) := hide (by rw [h2]; exact Ext.alloc _ _)
      have Y2 : Hid (Blk w2 q 49 #[.int .i64 vr, .int .i64 1, .int .i64 1]) := hide (by rw [h2, hq]; exact Blk.new _ _ _)
      have E2 := hide (Ext.trans HX.out EY.out)
      have y0 : w2.cell? ⟨q, 0, none⟩ = some (.int .i64 vr) := Y2.out.cell 0
      have y1 : w2.cell? ⟨q, 1, none⟩ = some (.int .i64 1) := Y2.out.cell 1
      have y2 : w2.cell? ⟨q, 2, none⟩ = some (.int .i64 1) := Y2.out.cell 2
      clear h2 hq v0 v1 v2
      go_wp2_with (((go_at_call 24; with_reducible refine (out_no ?_ _).mono ?_); (focus omega); rintro e w' ⟨rfl, rfl⟩))
      go_roundw
      case rel => exact ⟨1, by omega, rfl, E2⟩
      case measure => simp [intOf]
    · obtain rfl : k = 1 := by omega
      clear hlt hk
      go_wp2_with fail
      go_ret
      exact ⟨rfl, HX.out⟩
set_option linter.unusedVariables false in
set_option linter.unusedSimpArgs false in
set_option maxRecDepth 100000 in
set_option maxHeartbeats 8000000 in
theorem named_no {g : Nat} {x : Rg} {nm : List UInt8} {w : World} (h0 : w.cell? ⟨g, 0, none⟩ = some (.string ⟨nm.toArray⟩)) (hne : x.name ≠ nm) :
    Calls Tryd.prog 41 #[.agg #[.string ⟨x.name.toArray⟩, .int .i64 x.rate, .int .i64 x.height, .int .i64 x.qual], .pointer (some ⟨g, 0, none⟩)] w fun e w' => e = .returned (.bool false) ∧ Ext w w' := by
  have E0 := hide (Ext.alloc w (.cells #[.string ⟨x.name.toArray⟩, .int .i64 x.rate, .int .i64 x.height, .int .i64 x.qual] 45))
  have X0 := hide (Blk.new w 45 #[.string ⟨x.name.toArray⟩, .int .i64 x.rate, .int .i64 x.height, .int .i64 x.qual])
  have hb : (x.name == nm) = false := by simpa using hne
  have H0 := hide h0
  clear hne h0
  go_enter Tryd.func41, Tryd.ntmps41
  go_upto_region 1 with (fail)
  refine gen_wpC fun w0 hw => ?_
  rw [← hw] at E0 X0
  obtain ⟨q, hq⟩ : ∃ q, q = w.heap.size := ⟨_, rfl⟩
  rw [← hq] at X0 ⊢
  have x0 : w0.cell? ⟨q, 0, none⟩ = some (.string ⟨x.name.toArray⟩) := X0.out.cell 0
  have n0 : w0.cell? ⟨g, 0, none⟩ = some (.string ⟨nm.toArray⟩) := E0.out.cell H0.out
  clear hw hq
  go_wp2_with fail
  go_ret
  exact ⟨rfl, E0.out⟩
set_option linter.unusedVariables false in
set_option linter.unusedSimpArgs false in
set_option maxRecDepth 100000 in
set_option maxHeartbeats 8000000 in
theorem indexRg_no {A : Option Addr} {n c g : Nat} {l : List Rg} {nm : List UInt8} {w : World} (h : At w 4 eRg A n c l) (h0 : w.cell? ⟨g, 0, none⟩ = some (.string ⟨nm.toArray⟩)) (hne : ∀ k, k < n → (l.getD k default).name ≠ nm) :
    Calls Tryd.prog 57 #[.slice A n c, .func (.func 41) #[] #[.pointer (some ⟨g, 0, none⟩)]] w fun e w' => e = .returned (.int .i64 (-1)) ∧ Ext w w' := by
  have hb := h.bound
  have H := hide h
  have H0 := hide h0
  have HN := hide hne
  clear h h0 hne
  go_enter Tryd.func57, Tryd.ntmps57
  go_wp2_with fail
  go_loopw [5, 8] (fun _ ri wr => ∃ k : Nat, k ≤ n ∧ ri = .int .i64 k ∧ Hid (Ext w wr)) (fun _ ri _ => n - (intOf ri).toNat)
  case atStart => exact ⟨0, by omega, rfl, hide (Ext.refl _)⟩
  case round =>
    obtain ⟨k, hk, rfl, HX⟩ := hrel
    by_cases hlt : k < n
    · have hat := H.out.ext HX.out
      obtain ⟨b, o, rfl, _⟩ := hat.addr (by omega)
      have a0 := hat.cellK hlt default 0 _ rfl
      have a1 := hat.cellK hlt default 1 _ rfl
      have a2 := hat.cellK hlt default 2 _ rfl
      have a3 := hat.cellK hlt default 3 _ rfl
      rw [Nat.add_zero] at a0
      have HC := hide (named_no (x := l.getD k default) (HX.out.cell H0.out) (HN.out k hlt))
      generalize l.getD k default = x at *
      have i1 : (k : Int) < (n : Int) := by omega
      have i0 : (0 : Int) ≤ (k : Int) := by omega
      have i8 : IntKind.i64.wrap ((k : Int) + 1) = (k : Int) + 1 := by rw [IntKind.wrap_i64]; omega
      clear hat
      go_wp2_with fail
      refine HC.out.mono ?_
      rintro e w3 ⟨rfl, e3⟩
      have E3 := hide (Ext.trans HX.out e3)
      clear e3
      go_wp2_with fail
      go_roundw
      case rel => exact ⟨k + 1, by omega, by go_num, E3⟩
      case measure => simp [intOf]; omega
    · obtain rfl : k = n := by omega
      have i9 : ¬ (k : Int) < (k : Int) := by omega
      clear hlt hk
      go_wp2_with fail
      go_ret
      exact ⟨rfl, HX.out⟩
theorem containsRg_no {A : Option Addr} {n c g : Nat} {l : List Rg} {nm : List UInt8} {w : World} (h : At w 4 eRg A n c l) (h0 : w.cell? ⟨g, 0, none⟩ = some (.string ⟨nm.toArray⟩)) (hne : ∀ k, k < n → (l.getD k default).name ≠ nm) :
    Calls Tryd.prog 40 #[.slice A n c, .func (.func 41) #[] #[.pointer (some ⟨g, 0, none⟩)]] w fun e w' => e = .returned (.bool false) ∧ Ext w w' := by
  have HI := hide (indexRg_no h h0 hne)
  clear h h0 hne
  go_enter Tryd.func40, Tryd.ntmps40
  go_wp2_with fail
  refine HI.out.mono ?_
  rintro e w' ⟨rfl, e1⟩
  have E1 := hide e1
  clear e1
  go_wp2_with fail
  go_ret
  exact ⟨rfl, E1.out⟩
end Go.Proofs.YtfelgolfebhmkaaDoor
