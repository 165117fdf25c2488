/- Walks of the ladder: takes, CheckCrowd at one viewer. Conditions as stated. -/
import Derived.Test.YtfelgolfebhmkaaDoorMtm01
import Derived.Test.YtfelgolfebhmkaaDoorMtm02
import Derived.Deep.RegionHeld3
import Derived.Deep.DeepCutAuto
import Derived.BigQuiet
namespace Go.Proofs.YtfelgolfebhmkaaDoor
open Go.RowKit
structure Rg where
  name : List UInt8
  rate : Int
  height : Int
  qual : Int
deriving Inhabited
abbrev eRg (x : Rg) : List Value := [.string ⟨x.name.toArray⟩, .int .i64 x.rate, .int .i64 x.height, .int .i64 x.qual]
theorem len_eRg (x : Rg) : (eRg x).length = 4 := rfl
theorem one_eRg (x : Rg) : ∀ u ∈ eRg x, u.oneCell' = true := by intro u hu; simp at hu; rcases hu with h | h | h | h <;> subst h <;> rfl
theorem rg_rate {l : List Rg} {k : Nat} (h : k < l.length) : (l.map (·.rate)).getD k 0 = (l.getD k default).rate := by simp [List.getD, h]
theorem rg_qual {l : List Rg} {k : Nat} (h : k < l.length) : (l.map (·.qual)).getD k 0 = (l.getD k default).qual := by simp [List.getD, h]
set_option linter.unusedVariables false in
set_option linter.unusedSimpArgs false in
set_option maxRecDepth 100000 in
set_option maxHeartbeats 8000000 in
theorem takes_any {A : Option Addr} {n c : Nat} {l : List Rg} {vr wt : Int} {w : World} (h : At w 4 eRg A n c l) (h1 : ∀ k, k < n → (l.getD k default).height = 1) :
    Calls Tryd.prog 21 #[.slice A n c, .agg #[.int .i64 vr, .int .i64 1, .int .i64 wt]] w fun e w' => e = .returned (.int .i64 (tkF (l.map (·.rate)) (l.map (·.qual)) vr n)) ∧ Ext w w' := by
  have hl := h.len
  have hb := h.bound
  have HL := hide h
  have E0 := hide (Ext.alloc w (.cells #[.int .i64 vr, .int .i64 1, .int .i64 wt] 49))
  have X0 := hide (Blk.new w 49 #[.int .i64 vr, .int .i64 1, .int .i64 wt])
  have HS : Hid (∀ k : Nat, tkF (l.map (·.rate)) (l.map (·.qual)) vr (k + 1) = if (l.map (·.rate)).getD k 0 ≤ vr ∧ (tkF (l.map (·.rate)) (l.map (·.qual)) vr k < 0 ∨ (l.map (·.qual)).getD (tkF (l.map (·.rate)) (l.map (·.qual)) vr k).toNat 0 < (l.map (·.qual)).getD k 0) then (k : Int) else tkF (l.map (·.rate)) (l.map (·.qual)) vr k) := hide (fun _ => rfl)
  have HB := hide (fun k => tkF_bd (l.map (·.rate)) (l.map (·.qual)) vr k)
  have H0 : Hid (tkF (l.map (·.rate)) (l.map (·.qual)) vr 0 = -1) := hide rfl
  have HR := hide (fun k (hk : k < n) => rg_rate (l := l) (k := k) (by omega))
  have HQ := hide (fun k (hk : k < n) => rg_qual (l := l) (k := k) (by omega))
  have H1 := hide h1
  clear h hl h1
  generalize tkF (l.map (·.rate)) (l.map (·.qual)) vr = tk at *
  generalize l.map (·.rate) = R at *
  generalize l.map (·.qual) = Q at *
  go_enter Tryd.func21, Tryd.ntmps21
  go_upto_region 1 with (fail)
  refine gen_wpC fun w0 h0 => ?_
  rw [← h0] at E0 X0
  obtain ⟨vb, hvb⟩ : ∃ g, g = w.heap.size := ⟨_, rfl⟩
  rw [← hvb] at X0 ⊢
  clear h0 hvb
  go_wp2_with fail
  go_loopw [5, 10] (fun ra ri wr => ∃ k : Nat, k ≤ n ∧ ri = .int .i64 k ∧ ra = .int .i64 (tk k) ∧ Hid (Ext w0 wr)) (fun ra ri _ => n - (intOf ri).toNat)
  case atStart => exact ⟨0, by omega, rfl, by rw [H0.out], hide (Ext.refl _)⟩
  case round =>
    obtain ⟨k, hk, rfl, rfl, HX⟩ := hrel
    by_cases hlt : k < n
    · have hat := HL.out.ext (Ext.trans E0.out HX.out)
      obtain ⟨b, o, rfl, _⟩ := hat.addr (by omega)
      have a0 := hat.cellK hlt default 0 _ rfl
      have a1 := hat.cellK hlt default 1 _ rfl
      have a2 := hat.cellK hlt default 2 _ rfl
      have a3 := hat.cellK hlt default 3 _ rfl
      have hst := HS.out k
      rw [HR.out k hlt, HQ.out k hlt] at hst
      rw [H1.out k hlt] at a2
      rw [Nat.add_zero] at a0
      have hzt : ∀ q : Nat, tk k = (q : Int) → q < n ∧ wr.cell? ⟨b, o + q * 4 + 3, none⟩ = some (.int .i64 (Q.getD q 0)) := fun q hq => by
        have := (HB.out k).2
        have hqn : q < n := by omega
        refine ⟨hqn, ?_⟩
        rw [HQ.out q hqn]
        exact hat.cellK hqn default 3 _ rfl
      have HZT := hide hzt
      clear hzt
      generalize (l.getD k default).name = nm at *
      generalize (l.getD k default).rate = rr at *
      generalize (l.getD k default).qual = qq at *
      have hbd := HB.out k
      have HST := hide hst
      obtain ⟨t, ht⟩ : ∃ t, tk k = t := ⟨_, rfl⟩
      rw [ht] at hbd ⊢
      have HT := hide ht
      have i1 : (k : Int) < (n : Int) := by omega
      have i0 : (0 : Int) ≤ (k : Int) := by omega
      have i8 : IntKind.i64.wrap ((k : Int) + 1) = (k : Int) + 1 := by rw [IntKind.wrap_i64]; omega
      clear hat hst ht
      go_upto_region 5 with (fail)
      refine gen_wpC fun w2 h2 => ?_
      obtain ⟨g, hg⟩ : ∃ g, g = wr.heap.size := ⟨_, rfl⟩
      rw [← hg]
      have EY : Hid (Ext wr w2) := hide (by rw [h2]; exact Ext.alloc _ _)
      have Y2 : Hid (Blk w2 g 45 #[.string ⟨nm.toArray⟩, .int .i64 rr, .int .i64 1, .int .i64 qq]) := hide (by rw [h2, hg]; exact Blk.new _ _ _)
      have E2 := hide (Ext.trans HX.out EY.out)
      have y1 : w2.cell? ⟨g, 1, none⟩ = some (.int .i64 rr) := Y2.out.cell 1
      have y2 : w2.cell? ⟨g, 2, none⟩ = some (.int .i64 1) := Y2.out.cell 2
      have y3 : w2.cell? ⟨g, 3, none⟩ = some (.int .i64 qq) := Y2.out.cell 3
      have v0 : w2.cell? ⟨vb, 0, none⟩ = some (.int .i64 vr) := (X0.out.ext E2.out).cell 0
      have v1 : w2.cell? ⟨vb, 1, none⟩ = some (.int .i64 1) := (X0.out.ext E2.out).cell 1
      clear h2 hg a0 a1 a2 a3
      by_cases hr : rr ≤ vr
      · by_cases htn : t < 0
        · have HN : Hid (tk (k + 1) = (k : Int)) := hide (by rw [HST.out, HT.out, if_pos ⟨hr, .inl htn⟩])
          have d1 : decide (rr ≤ vr) = true := decide_eq_true hr
          have d2 : decide (t < 0) = true := decide_eq_true htn
          go_quiet (fail)
          go_wp2_with fail
          go_roundw
          case rel => exact ⟨k + 1, by omega, by go_num, by rw [HN.out], hide (below_drewN E2.out _)⟩
          case measure => simp [intOf]; omega
        · obtain ⟨q, rfl⟩ : ∃ q : Nat, t = (q : Int) := ⟨t.toNat, by omega⟩
          obtain ⟨hqn, z3⟩ := HZT.out q HT.out
          have z3 := EY.out.cell z3
          have hq0 : (0 : Int) ≤ (q : Int) := by omega
          have hq1 : (q : Int) < (n : Int) := by omega
          have HQN : Hid (tk (k + 1) = if rr ≤ vr ∧ ((q : Int) < 0 ∨ Q.getD q 0 < qq) then (k : Int) else (q : Int)) := hide (by rw [HST.out, HT.out, Int.toNat_natCast])
          generalize Q.getD q 0 = qt at *
          by_cases hc : qt < qq
          · have HN : Hid (tk (k + 1) = (k : Int)) := hide (by rw [HQN.out, if_pos ⟨hr, .inr hc⟩])
            have d1 : decide (rr ≤ vr) = true := decide_eq_true hr
            have d2 : decide ((q : Int) < 0) = false := decide_eq_false (by omega)
            have d3 : decide (qt < qq) = true := decide_eq_true hc
            go_quiet (fail)
            go_wp2_with fail
            go_roundw
            case rel => exact ⟨k + 1, by omega, by go_num, by rw [HN.out], hide (below_drewN E2.out _)⟩
            case measure => simp [intOf]; omega
          · have HN : Hid (tk (k + 1) = (q : Int)) := hide (by rw [HQN.out, if_neg (by omega)])
            have d1 : decide (rr ≤ vr) = true := decide_eq_true hr
            have d2 : decide ((q : Int) < 0) = false := decide_eq_false (by omega)
            have d3 : decide (qt < qq) = false := decide_eq_false hc
            go_quiet (fail)
            go_wp2_with fail
            go_roundw
            case rel => exact ⟨k + 1, by omega, by go_num, by rw [HN.out], hide (below_drewN E2.out _)⟩
            case measure => simp [intOf]; omega
      · have HN : Hid (tk (k + 1) = t) := hide (by rw [HST.out, HT.out, if_neg (fun hc => hr hc.1)])
        have d1 : decide (rr ≤ vr) = false := decide_eq_false hr
        go_quiet (fail)
        go_wp2_with fail
        go_roundw
        case rel => exact ⟨k + 1, by omega, by go_num, by rw [HN.out], hide (below_drewN E2.out _)⟩
        case measure => simp [intOf]; omega
    · obtain rfl : k = n := by omega
      have i9 : ¬ (k : Int) < (k : Int) := by omega
      clear hlt hk
      go_wp2_with fail
      go_ret
      exact ⟨rfl, Ext.trans E0.out HX.out⟩
end Go.Proofs.YtfelgolfebhmkaaDoor
