/- Several texts in one: Walk of the ladder: Takes of rungs that are right. Conditions as stated; The contract of strconv.Itoa at this program: the shelf laid by hand. Condition: the table reads as it is laid. -/
import Derived.Test.YtfelgolfebhmkaaDoorMtm06
import Derived.Test.YtfelgolfebhmkaaDoorMtm07
import Derived.Test.YtfelgolfebhmkaaDoorProg
import Derived.Shelf.Strconv.Itoa3
namespace Go.Proofs.YtfelgolfebhmkaaDoor
open Go.RowKit
set_option linter.unusedVariables false in
set_option linter.unusedSimpArgs false in
set_option maxRecDepth 100000 in
set_option maxHeartbeats 8000000 in
theorem keyTakes_any {A : Option Addr} {n c : Nat} {l : List Rg} {vr : Int} {w : World} (h : At w 4 eRg A n c l) (hok : RgOk l n) (hv : 0 ≤ vr ∧ vr ≤ 1000000000) :
    Calls Tryd.prog 8 #[.slice A n c, .agg #[.int .i64 vr, .int .i64 1, .int .i64 1]] w fun e w' =>
      e = .returned (.tuple #[.int .i64 (if tkF (l.map (·.rate)) (l.map (·.qual)) vr n < 0 then 0 else tkF (l.map (·.rate)) (l.map (·.qual)) vr n), .bool (decide (0 ≤ tkF (l.map (·.rate)) (l.map (·.qual)) vr n)), .int .i64 0]) ∧ Ext w w' := by
  have E0 := hide (Ext.alloc w (.cells #[.int .i64 vr, .int .i64 1, .int .i64 1] 49))
  have X0 := hide (Blk.new w 49 #[.int .i64 vr, .int .i64 1, .int .i64 1])
  have HCR := hide (fun (W : World) (hW : Ext w W) => checkRg_any (h.ext hW) hok)
  have HTK := hide (fun (W : World) (hW : Ext w W) => takes_any (vr := vr) (wt := 1) (h.ext hW) hok.height)
  generalize tkF (l.map (·.rate)) (l.map (·.qual)) vr n = t at *
  clear h hok
  go_enter Tryd.func8, Tryd.ntmps8
  go_upto_region 1 with (fail)
  refine gen_wpC fun w0 h0 => ?_
  rw [← h0] at E0 X0
  obtain ⟨vb, hvb⟩ : ∃ g, g = w.heap.size := ⟨_, rfl⟩
  rw [← hvb] at X0 ⊢
  clear h0 hvb
  have HS : Hid (∀ W, Ext w0 W → W.cell? ⟨vb, 0, none⟩ = some (.int .i64 vr) ∧ W.cell? ⟨vb, 1, none⟩ = some (.int .i64 1) ∧ W.cell? ⟨vb, 2, none⟩ = some (.int .i64 1)) := hide (fun W EX => ⟨EX.cell (X0.out.cell 0), EX.cell (X0.out.cell 1), EX.cell (X0.out.cell 2)⟩)
  have HFZ : Hid (∀ W : World, Calls Tryd.prog 18 #[.slice (some ⟨W.heap.size, 0, none⟩) 2 2] (W.alloc (.cells #[.int .i64 0, .int .i64 0] 33)) fun e w' => e = .returned (.int .i64 0) ∧ Ext (W.alloc (.cells #[.int .i64 0, .int .i64 0] 33)) w') := hide (fun W => first_any (At.new2 W 0 0 _))
  have EX := Ext.drew w0
  go_region_held3 (fun W => W.cell? ⟨vb, 0, none⟩ = some (.int .i64 vr) ∧ W.cell? ⟨vb, 1, none⟩ = some (.int .i64 1) ∧ W.cell? ⟨vb, 2, none⟩ = some (.int .i64 1)) (first
    | (with_reducible exact HS.out _ EX)
    | (with_reducible exact HS.out _ (Ext.trans EX (Ext.alloc _ _)))
    | (with_reducible exact HS.out _ (Ext.alloc _ _))
    | (with_reducible exact HS.out _ (Ext.trans (Ext.alloc _ _) (Ext.drew _)))) (first
    | (go_at_call 19; (with_reducible refine (HCR.out _ (Ext.trans E0.out EX)).mono ?_); rintro e w5 ⟨rfl, e5⟩; have EC := e5; have EX := Ext.trans EX e5)
    | (go_at_call 19; (with_reducible refine (HCR.out _ (Ext.trans E0.out (Ext.trans (Ext.alloc _ _) (Ext.drew _)))).mono ?_); rintro e w5 ⟨rfl, e5⟩; have EC := e5; have EX : Ext w0 w5 := Ext.trans (Ext.trans (Ext.alloc w0 _) (Ext.drew _)) e5)
    | (go_at_call 20; (refine (crowd_any (vr := vr) (by first | exact (Blk.new _ _ _).cell 0 | exact EC.cell (((Blk.new _ _ _).ext (Ext.drew _)).cell 0) | exact ((Blk.new _ _ _).ext (Ext.drew _)).cell 0) (by first | exact (Blk.new _ _ _).cell 1 | exact EC.cell (((Blk.new _ _ _).ext (Ext.drew _)).cell 1) | exact ((Blk.new _ _ _).ext (Ext.drew _)).cell 1) (by first | exact (Blk.new _ _ _).cell 2 | exact EC.cell (((Blk.new _ _ _).ext (Ext.drew _)).cell 2) | exact ((Blk.new _ _ _).ext (Ext.drew _)).cell 2) hv).mono ?_); rintro e w6 ⟨rfl, e6⟩; have EX : Ext w0 w6 := (by first | exact Ext.trans EX e6 | exact Ext.trans (Ext.trans EX (Ext.alloc _ _)) e6))
    | (go_at_call 18; (with_reducible refine (HFZ.out _).mono ?_); rintro e w7 ⟨rfl, e7⟩; have EX := Ext.trans (Ext.trans EX (Ext.alloc _ _)) e7; clear e7))
  all_goals (
    refine gen_the fun W1 h1 => ?_
    have X1 : Hid (Ext w0 W1) := hide (by rw [h1]; exact EX)
    have v0 : W1.cell? ⟨vb, 0, none⟩ = some (.int .i64 vr) := (X0.out.ext X1.out).cell 0
    have v1 : W1.cell? ⟨vb, 1, none⟩ = some (.int .i64 1) := (X0.out.ext X1.out).cell 1
    have v2 : W1.cell? ⟨vb, 2, none⟩ = some (.int .i64 1) := (X0.out.ext X1.out).cell 2
    have HT1 := hide (HTK.out W1 (Ext.trans E0.out X1.out))
    clear h1 EX EC HS HCR HTK HFZ
    go_wp2_with fail
    refine HT1.out.mono ?_
    rintro e w2 ⟨rfl, e2⟩
    have E2 := hide (Ext.trans E0.out (Ext.trans X1.out e2))
    clear e2 HT1
    by_cases ht : t < 0
    · have d1 : decide (t < 0) = true := decide_eq_true ht
      have d2 : decide (0 ≤ t) = false := decide_eq_false (by omega)
      go_wp2_with fail
      go_ret3
      exact ⟨by first | rfl | (rw [d2]; rfl) | (rw [if_pos ht, d2]; rfl) | (rw [if_pos ht]; rfl), E2.out⟩
    · have d1 : decide (t < 0) = false := decide_eq_false ht
      have d2 : decide (0 ≤ t) = true := decide_eq_true (by omega)
      go_wp2_with fail
      go_ret3
      exact ⟨by first | rfl | (rw [d2]; rfl) | (rw [if_neg ht, d2]; rfl) | (rw [if_neg ht]; rfl), E2.out⟩)
end Go.Proofs.YtfelgolfebhmkaaDoor
namespace Go.Proofs.YtfelgolfebhmkaaDoor
open Go.Shelf
set_option maxRecDepth 100000
def itoRen : Ren := { f := fun | 129 => 66 | 171 => 7 | 243 => 17 | 246 => 38 | 283 => 51 | 284 => 52 | 285 => 53 | 286 => 54 | 317 => 65 | 318 => 67 | 319 => 68 | 320 => 69 | 337 => 75 | 338 => 76 | n => n, t := fun | 0 => 0 | 1 => 1 | 2 => 2 | 3 => 3 | 4 => 4 | 5 => 5 | 6 => 6 | 7 => 7 | 8 => 8 | 9 => 9 | 10 => 10 | 11 => 11 | 12 => 12 | 13 => 13 | 14 => 14 | 15 => 15 | 16 => 16 | 17 => 17 | 18 => 18 | 19 => 19 | 20 => 20 | 21 => 21 | 28 => 22 | 36 => 72 | 37 => 108 | 41 => 111 | 43 => 60 | 46 => 124 | 47 => 125 | 51 => 122 | 52 => 130 | 53 => 95 | 54 => 106 | 74 => 134 | 75 => 135 | 80 => 137 | 81 => 143 | 83 => 43 | 84 => 83 | 104 => 85 | 111 => 71 | 112 => 89 | 114 => 78 | 127 => 147 | 143 => 136 | 144 => 152 | 145 => 153 | 148 => 114 | 149 => 115 | 164 => 154 | 171 => 105 | 172 => 107 | 173 => 109 | 174 => 110 | 211 => 120 | 212 => 121 | 213 => 123 | 229 => 92 | 232 => 132 | 233 => 133 | 238 => 138 | 239 => 139 | 240 => 140 | 241 => 141 | 242 => 142 | 243 => 144 | 244 => 145 | 245 => 146 | 246 => 148 | 247 => 149 | 248 => 150 | 249 => 151 | n => n, g := fun | 17 => 0 | 18 => 1 | 19 => 2 | n => n }
theorem itoLays : LaysM.n171 Tryd.prog itoRen := {
  mixed := by kernel_rfl
  f129 := Tryd.func66.trans (congrArg some (by kernel_rfl))
  f171 := Tryd.func7.trans (congrArg some (by kernel_rfl))
  f243 := Tryd.func17.trans (congrArg some (by kernel_rfl))
  f246 := Tryd.func38.trans (congrArg some (by kernel_rfl))
  f283 := Tryd.func51.trans (congrArg some (by kernel_rfl))
  f284 := Tryd.func52.trans (congrArg some (by kernel_rfl))
  f285 := Tryd.func53.trans (congrArg some (by kernel_rfl))
  f286 := Tryd.func54.trans (congrArg some (by kernel_rfl))
  f317 := Tryd.func65.trans (congrArg some (by kernel_rfl))
  f318 := Tryd.func67.trans (congrArg some (by kernel_rfl))
  f319 := Tryd.func68.trans (congrArg some (by kernel_rfl))
  f320 := Tryd.func69.trans (congrArg some (by kernel_rfl))
  f337 := Tryd.func75.trans (congrArg some (by kernel_rfl))
  f338 := Tryd.func76.trans (congrArg some (by kernel_rfl))
  t0 := Tryd.underlying0
  a0 := Tryd.isAgg0
  z0 := Tryd.sizeOf0
  v0 := Tryd.zeroValue0
  t2 := Tryd.underlying2
  a2 := Tryd.isAgg2
  z2 := Tryd.sizeOf2
  v2 := Tryd.zeroValue2
  t3 := Tryd.underlying3
  a3 := Tryd.isAgg3
  z3 := Tryd.sizeOf3
  v3 := Tryd.zeroValue3
  t4 := Tryd.underlying4
  a4 := Tryd.isAgg4
  z4 := Tryd.sizeOf4
  v4 := Tryd.zeroValue4
  t5 := Tryd.underlying5
  a5 := Tryd.isAgg5
  z5 := Tryd.sizeOf5
  v5 := Tryd.zeroValue5
  t9 := Tryd.underlying9
  a9 := Tryd.isAgg9
  z9 := Tryd.sizeOf9
  v9 := Tryd.zeroValue9
  t20 := Tryd.underlying20
  a20 := Tryd.isAgg20
  z20 := Tryd.sizeOf20
  v20 := Tryd.zeroValue20
  t37 := Tryd.underlying108
  a37 := Tryd.isAgg108
  z37 := Tryd.sizeOf108
  v37 := Tryd.zeroValue108
  t46 := Tryd.underlying124
  a46 := Tryd.isAgg124
  z46 := Tryd.sizeOf124
  v46 := Tryd.zeroValue124
  t51 := Tryd.underlying122
  a51 := Tryd.isAgg122
  z51 := Tryd.sizeOf122
  v51 := Tryd.zeroValue122
  t53 := Tryd.underlying95
  a53 := Tryd.isAgg95
  z53 := Tryd.sizeOf95
  v53 := Tryd.zeroValue95
  t171 := Tryd.underlying105
  a171 := Tryd.isAgg105
  z171 := Tryd.sizeOf105
  v171 := Tryd.zeroValue105
  t173 := Tryd.underlying109
  a173 := Tryd.isAgg109
  z173 := Tryd.sizeOf109
  v173 := Tryd.zeroValue109
  t212 := Tryd.underlying121
  a212 := Tryd.isAgg121
  z212 := Tryd.sizeOf121
  v212 := Tryd.zeroValue121
  t213 := Tryd.underlying123
  a213 := Tryd.isAgg123
  z213 := Tryd.sizeOf123
  t232 := Tryd.underlying132
  a232 := Tryd.isAgg132
  z232 := Tryd.sizeOf132
  v232 := Tryd.zeroValue132
  t233 := Tryd.underlying133
  a233 := Tryd.isAgg133
  z233 := Tryd.sizeOf133
  v233 := Tryd.zeroValue133
  g17 := by kernel_rfl
  g18 := by kernel_rfl
  g19 := by kernel_rfl
  i0 := by kernel_rfl
  i2 := by kernel_rfl
  i3 := by kernel_rfl
  i4 := by kernel_rfl
  i5 := by kernel_rfl
  i9 := by kernel_rfl
  i20 := by kernel_rfl
  i37 := by kernel_rfl
  i46 := by kernel_rfl
  i51 := by kernel_rfl
  i53 := by kernel_rfl
  i171 := by kernel_rfl
  i173 := by kernel_rfl
  i212 := by kernel_rfl
  i232 := by kernel_rfl
  i233 := by kernel_rfl
  m17 := by kernel_rfl
  m18 := by kernel_rfl
  m19 := by kernel_rfl }
end Go.Proofs.YtfelgolfebhmkaaDoor
