/- Walks of the ladder: CheckRenditions of rungs that are right. Conditions as stated. -/
import Derived.Test.YtfelgolfebhmkaaDoorMtm05
namespace Go.Proofs.YtfelgolfebhmkaaDoor
open Go.RowKit
theorem sl_toR {α : Type} {P : Program} {T elem : TypeId} {sz : Nat} {enc : α → List Value} {A : Option Addr} {n c : Nat} {xs : List α} {w : World} (hu : P.underlying T = some (.slice elem)) (hs : ∀ W, (Go.sizeOf elem).run P W = .ok sz W)
    (h : At w sz enc A n c xs) {m : Nat} (hm : m ≤ n) (j : Int) (hj : j = (m : Int)) (W : World) : (Instr.slice T (.slice A n c) none (some (.int .i64 j)) none).run P W = .ok (.slice A m c) W := by
  subst hj
  have _hle := h.le
  simp [Instr.slice, run_underlying hu, Instr.sliceBounds, Instr.sliceBound, asIntOf, hs, go_sem, show m ≤ c by omega]
structure RgOk (l : List Rg) (n : Nat) : Prop where
  few : n ≤ 100
  name : ∀ k, k < n → nameB ⟨(l.getD k default).name.toArray⟩ = true ∧ (l.getD k default).name.length ≤ 40
  rate : ∀ k, k < n → 1 ≤ (l.getD k default).rate ∧ (l.getD k default).rate ≤ 1000000000
  height : ∀ k, k < n → (l.getD k default).height = 1
  qual : ∀ k, k < n → 0 ≤ (l.getD k default).qual ∧ (l.getD k default).qual ≤ 1000000
  up : ∀ k, k + 1 < n → (l.getD k default).rate ≤ (l.getD (k + 1) default).rate
  less : ∀ k, k + 1 < n → Op.bytesLess (l.getD (k + 1) default).name (l.getD k default).name = false
  apart : ∀ k j, k < n → j < k → (l.getD j default).name ≠ (l.getD k default).name
set_option linter.unusedVariables false in
set_option linter.unusedSimpArgs false in
set_option maxRecDepth 100000 in
set_option maxHeartbeats 8000000 in
theorem checkRg_any {A : Option Addr} {n c : Nat} {l : List Rg} {w : World} (h : At w 4 eRg A n c l) (hok : RgOk l n) :
    Calls Tryd.prog 19 #[.slice A n c] w fun e w' => e = .returned (.int .i64 0) ∧ Ext w w' := by
  have hb := h.bound
  have hfw := hok.few
  have H := hide h
  have HO := hide hok
  clear h hok
  go_enter Tryd.func19, Tryd.ntmps19
  go_wp2_with fail
  go_loopw [10] (fun ri wr => ∃ k : Nat, k ≤ n ∧ ri = .int .i64 k ∧ Hid (Ext w wr)) (fun ri _ => n - (intOf ri).toNat)
  case atStart => exact ⟨0, by omega, rfl, hide (Ext.refl _)⟩
  case round =>
    obtain ⟨k, hk, rfl, HX⟩ := hrel
    by_cases hlt : k < n
    · have hat := H.out.ext HX.out
      obtain ⟨b, o, rfl, _⟩ := hat.addr (by omega)
      have a0 := hat.cellK hlt default 0 _ rfl
      have a1 := hat.cellK hlt default 1 _ rfl
      have a2 := hat.cellK hlt default 2 _ rfl
      have a3 := hat.cellK hlt default 3 _ rfl
      rw [Nat.add_zero] at a0
      rw [HO.out.height k hlt] at a2
      have hra := HO.out.rate k hlt
      have hqa := HO.out.qual k hlt
      have hna := HO.out.name k hlt
      have hup := fun j (hj : k = j + 1) => HO.out.up j (by omega)
      have HAP := hide (fun j (hj : j < k) => HO.out.apart k j hlt hj)
      obtain ⟨x, hx⟩ : ∃ x, l.getD k default = x := ⟨_, rfl⟩
      have HX0 := hide hx
      rw [hx] at a0 a1 a3 hra hqa hna
      clear hx
      obtain ⟨rr, hrr⟩ : ∃ r, x.rate = r := ⟨_, rfl⟩
      rw [hrr] at a1 hra
      have HRR := hide hrr
      clear hrr
      generalize x.qual = qq at *
      have HIN := hide (fun (W : World) => isName_any ⟨x.name.toArray⟩ (by show x.name.toArray.size ≤ maxLen; rw [List.size_toArray]; unfold maxLen; omega) W)
      rw [hna.1] at HIN
      have i1 : (k : Int) < (n : Int) := by omega
      have i0 : (0 : Int) ≤ (k : Int) := by omega
      have i8 : IntKind.i64.wrap ((k : Int) + 1) = (k : Int) + 1 := by rw [IntKind.wrap_i64]; omega
      go_upto_region 6 with (fail)
      refine gen_wpC fun w2 h2 => ?_
      obtain ⟨g, hg⟩ : ∃ g, g = wr.heap.size := ⟨_, rfl⟩
      rw [← hg]
      have EY : Hid (Ext wr w2) := hide (by rw [h2]; exact Ext.alloc _ _)
      have Y2 : Hid (Blk w2 g 45 #[.string ⟨x.name.toArray⟩, .int .i64 rr, .int .i64 1, .int .i64 qq]) := hide (by rw [h2, hg]; exact Blk.new _ _ _)
      have E2 := hide (Ext.trans HX.out EY.out)
      have y0 : w2.cell? ⟨g, 0, none⟩ = some (.string ⟨x.name.toArray⟩) := Y2.out.cell 0
      have y1 : w2.cell? ⟨g, 1, none⟩ = some (.int .i64 rr) := Y2.out.cell 1
      have y2 : w2.cell? ⟨g, 2, none⟩ = some (.int .i64 1) := Y2.out.cell 2
      have y3 : w2.cell? ⟨g, 3, none⟩ = some (.int .i64 qq) := Y2.out.cell 3
      have HAT2 := hide (H.out.ext E2.out)
      clear h2 hg a0 a1 a2 a3 hat
      go_wp2_with (first | ((go_at_call 39; with_reducible refine (HIN.out _).mono ?_); rintro e w' ⟨rfl, rfl⟩) | ((go_at_call 24; with_reducible refine (out_no ?_ _).mono ?_); (focus omega); rintro e w' ⟨rfl, rfl⟩))
      have hne : ∀ i, i < k → ((l.take k).getD i default).name ≠ x.name := fun i hi => by
        have e : (l.take k).getD i default = l.getD i default := by
          simp only [List.getD_eq_getElem?_getD, List.getElem?_take, hi, if_true]
        have := HAP.out i hi
        rw [HX0.out] at this
        rw [e]
        exact this
      have HC := hide (fun (W : World) (hW : Ext w2 W) => containsRg_no ((HAT2.out.ext hW).upto (k := k) (by omega)) (hW.cell y0) hne)
      clear hne
      rcases Nat.eq_zero_or_pos k with h0 | h0
      · subst h0
        have slk := sl_toR (T := 42) (P := Tryd.prog) Tryd.underlying42 (fun _ => by kernel_rfl) HAT2.out (m := 0) (by omega) 0 rfl
        go_quiet (fail)
        go_wp2_with fail
        refine (HC.out _ (below_drewN (Ext.refl w2) _)).mono ?_
        rintro e w3 ⟨rfl, e3⟩
        have E3 := hide (Ext.trans (below_drewN E2.out _) e3)
        clear e3
        go_wp2_with fail
        go_roundw
        case rel => exact ⟨0 + 1, by omega, by go_num, E3⟩
        case measure => simp [intOf]; omega
      · obtain ⟨j, rfl⟩ : ∃ j, k = j + 1 := ⟨k - 1, by omega⟩
        have u := hup j rfl
        have hls := HO.out.less j (by omega)
        rw [HX0.out] at u hls
        rw [HRR.out] at u
        have b0 := HAT2.out.cellK (k := j) (by omega) default 0 _ rfl
        have b1 := HAT2.out.cellK (k := j) (by omega) default 1 _ rfl
        have d1 : decide ((0 : Int) < ((j + 1 : Nat) : Int)) = true := decide_eq_true (by omega)
        have i7 : IntKind.i64.wrap (((j + 1 : Nat) : Int) - 1) = (j : Int) := by rw [IntKind.wrap_i64]; omega
        rw [Nat.add_zero] at b0
        have slk := sl_toR (T := 42) (P := Tryd.prog) Tryd.underlying42 (fun _ => by kernel_rfl) HAT2.out (m := j + 1) (by omega) ((j : Int) + 1) (by omega)
        have hap := HAP.out j (by omega)
        rw [HX0.out] at hap
        generalize (l.getD j default).name = nj at *
        have d2 : decide (rr < (l.getD j default).rate) = false := decide_eq_false (by omega)
        generalize (l.getD j default).rate = rj at *
        have d6 : (x.name == nj) = false := by simpa using (fun e => hap e.symm : ¬ x.name = nj)
        clear hup
        by_cases he : rr = rj
        · subst he
          go_quiet (fail)
          go_wp2_with fail
          refine (HC.out _ (below_drewN (Ext.refl w2) _)).mono ?_
          rintro e w3 ⟨rfl, e3⟩
          have E3 := hide (Ext.trans (below_drewN E2.out _) e3)
          clear e3
          go_wp2_with fail
          go_roundw
          case rel => exact ⟨j + 1 + 1, by omega, by go_num, E3⟩
          case measure => simp [intOf]; omega
        · have d3 : decide (rr = rj) = false := decide_eq_false he
          have d4 : (rr == rj) = false := by simpa using he
          go_quiet (fail)
          go_wp2_with fail
          refine (HC.out _ (below_drewN (Ext.refl w2) _)).mono ?_
          rintro e w3 ⟨rfl, e3⟩
          have E3 := hide (Ext.trans (below_drewN E2.out _) e3)
          clear e3
          go_wp2_with fail
          go_roundw
          case rel => exact ⟨j + 1 + 1, by omega, by go_num, E3⟩
          case measure => simp [intOf]; omega
    · obtain rfl : k = n := by omega
      have i9 : ¬ (k : Int) < (k : Int) := by omega
      clear hlt hk
      go_wp2_with fail
      go_ret
      exact ⟨rfl, HX.out⟩
end Go.Proofs.YtfelgolfebhmkaaDoor
