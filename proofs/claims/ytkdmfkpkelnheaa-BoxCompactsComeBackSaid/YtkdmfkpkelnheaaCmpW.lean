/- Walk: Compact (reference), given what compact makes. Conditions as stated. -/
import Derived.Test.YtkdmfkpkelnheaaCmpP
import Derived.Test.YtkdmfkpkelnheaaRtA
import Derived.Test.YtkdmfkpkelnheaaSmpR
namespace Go.Proofs.Ytkdmfkpkelnheaa
open Go.RowKit
def cqEl (ch : List Int) (i : Nat) : Int := if ch.getD i 0 < 1 ∨ 1000 < ch.getD i 0 then 1 else 0
def qlEl (pl : List Int) (i : Nat) : Int := if pl.getD i 0 < 0 ∨ 1000000 < pl.getD i 0 then 1 else 0
def sumI (ch : List Int) : Nat → Int
  | 0 => 0
  | k + 1 => sumI ch k + ch.getD k 0
/-- The fault of Compact. -/
def cmpF (l : List Smp) (ch pl : List Int) : Int :=
  if smpF l ≠ 0 then smpF l else if ch.length ≠ pl.length then 3 else if firstF (cqEl ch) ch.length ≠ 0 then 1 else if sumI ch ch.length ≠ (l.length : Int) then 3 else if firstF (qlEl pl) pl.length ≠ 0 then 1 else 0
/-- What Compact gives. -/
def CmGives (w : World) (t : Tab) (f : Int) (e : Ending) (w' : World) : Prop := ∃ v, e = .returned (.tuple #[v, .int .i64 f]) ∧ TbV w' v (if f = 0 then t else noTab) ∧ Ext w w'
theorem cm_bad {w w' : World} {t : Tab} {f g : Int} (h : f = g) (hg : g ≠ 0) (he : Ext w w') : CmGives w t f (.returned (.tuple #[.agg #[.int .i64 0, .slice none 0 0, .slice none 0 0, .slice none 0 0, .slice none 0 0, .slice none 0 0, .slice none 0 0], .int .i64 g])) w' :=
  ⟨_, by rw [h], by rw [if_neg (by omega)]; exact TbV.none_ _, he⟩
theorem sumI_bd {ch : List Int} : ∀ k, (∀ j, j < k → cqEl ch j = 0) → 0 ≤ sumI ch k ∧ sumI ch k ≤ 1000 * (k : Int)
  | 0, _ => ⟨Int.le_refl _, by show (0 : Int) ≤ _; omega⟩
  | k + 1, h => by
    obtain ⟨h1, h2⟩ := sumI_bd (ch := ch) k (fun j hj => h j (by omega))
    have h3 := h k (by omega)
    unfold cqEl at h3
    have h4 : ¬ (ch.getD k 0 < 1 ∨ 1000 < ch.getD k 0) := fun hc => by rw [if_pos hc] at h3; omega
    show 0 ≤ sumI ch k + ch.getD k 0 ∧ sumI ch k + ch.getD k 0 ≤ 1000 * ((k + 1 : Nat) : Int)
    omega
set_option linter.unusedVariables false in
set_option linter.unusedSimpArgs false in
set_option maxRecDepth 100000 in
set_option maxHeartbeats 8000000 in
theorem refCompact_of {A : Option Addr} {n c : Nat} {l : List Smp} {B : Option Addr} {m d : Nat} {ch : List Int} {D : Option Addr} {q r : Nat} {pl : List Int} {t : Tab} {w : World} (h : At w 5 eSm A n c l) (hc : At w 1 e64 B m d ch) (hp : At w 1 e64 D q r pl) (hm : m ≤ 17592186044416)
    (hk : cmpF l ch pl = 0 → ∀ W, Ext w W → Calls Try.prog 24 #[.slice A n c, .slice B m d, .slice D q r] W (fun e w' => ∃ v, e = .returned v ∧ TbB w' W.heap.size v t ∧ Ext W w')) :
    Calls Try.prog 7 #[.slice A n c, .slice B m d, .slice D q r] w (CmGives w t (cmpF l ch pl)) := by
  have E0 := hide (Ext.alloc w (.cells #[.int .i64 0, .slice none 0 0, .slice none 0 0, .slice none 0 0, .slice none 0 0, .slice none 0 0, .slice none 0 0] 27))
  have R0 := hide (Blk.new w 27 #[.int .i64 0, .slice none 0 0, .slice none 0 0, .slice none 0 0, .slice none 0 0, .slice none 0 0, .slice none 0 0])
  have HS := hide (refSamples_any (h.ext E0.out))
  have hl := h.len
  have hcl := hc.len
  have hpl := hp.len
  have HC := hide hc
  have HP := hide hp
  have HK := hide hk
  have HLL := hide hl
  have HCL := hide hcl
  have HPL := hide hpl
  have F1 : Hid (smpF l ≠ 0 → cmpF l ch pl = smpF l) := hide (fun h1 => by unfold cmpF; rw [if_pos h1])
  have F2 : Hid (smpF l = 0 → m ≠ q → cmpF l ch pl = 3) := hide (fun h1 h2 => by unfold cmpF; rw [if_neg (by omega), if_pos (by omega)])
  have F3 : Hid (smpF l = 0 → m = q → firstF (cqEl ch) ch.length ≠ 0 → cmpF l ch pl = 1) := hide (fun h1 h2 h3 => by unfold cmpF; rw [if_neg (by omega), if_neg (by omega), if_pos h3])
  have F4 : Hid (smpF l = 0 → m = q → firstF (cqEl ch) ch.length = 0 → sumI ch m ≠ (n : Int) → cmpF l ch pl = 3) := hide (fun h1 h2 h3 h4 => by unfold cmpF; rw [if_neg (by omega), if_neg (by omega), if_neg (by omega), if_pos (by rw [hcl, hl]; exact h4)])
  have F5 : Hid (smpF l = 0 → m = q → firstF (cqEl ch) ch.length = 0 → sumI ch m = (n : Int) → firstF (qlEl pl) pl.length ≠ 0 → cmpF l ch pl = 1) := hide (fun h1 h2 h3 h4 h5 => by unfold cmpF; rw [if_neg (by omega), if_neg (by omega), if_neg (by omega), if_neg (by rw [hcl, hl]; exact fun h => h h4), if_pos h5])
  have F6 : Hid (smpF l = 0 → m = q → firstF (cqEl ch) ch.length = 0 → sumI ch m = (n : Int) → firstF (qlEl pl) pl.length = 0 → cmpF l ch pl = 0) := hide (fun h1 h2 h3 h4 h5 => by unfold cmpF; rw [if_neg (by omega), if_neg (by omega), if_neg (by omega), if_neg (by rw [hcl, hl]; exact fun h => h h4), if_neg (by omega)])
  clear h hc hp hk hl hcl hpl
  generalize cmpF l ch pl = cf at *
  by_cases hs : smpF l = 0
  case neg =>
    have HE := hide (F1.out hs)
    have HNZ := hide hs
    have d0 : (smpF l != 0) = true := by simp [hs]
    clear F1 F2 F3 F4 F5 F6 HK hs
    go_enter Try.func7, Try.ntmps7
    go_wp2_with fail
    with_reducible refine HS.out.mono ?_
    rintro e w1 ⟨rfl, e1⟩
    have R1 := hide (R0.out.ext e1)
    have E1 := hide (Ext.trans E0.out e1)
    clear e1 HS R0 E0
    generalize smpF l = sf at *
    have z0 := R1.out.frozen 0
    have y0 : w1.cell? ⟨w.heap.size, 0, none⟩ = some (.int .i64 0) := R1.out.cell 0
    have z1 := R1.out.frozen 1
    have y1 : w1.cell? ⟨w.heap.size, 1, none⟩ = some (.slice none 0 0) := R1.out.cell 1
    have z2 := R1.out.frozen 2
    have y2 : w1.cell? ⟨w.heap.size, 2, none⟩ = some (.slice none 0 0) := R1.out.cell 2
    have z3 := R1.out.frozen 3
    have y3 : w1.cell? ⟨w.heap.size, 3, none⟩ = some (.slice none 0 0) := R1.out.cell 3
    have z4 := R1.out.frozen 4
    have y4 : w1.cell? ⟨w.heap.size, 4, none⟩ = some (.slice none 0 0) := R1.out.cell 4
    have z5 := R1.out.frozen 5
    have y5 : w1.cell? ⟨w.heap.size, 5, none⟩ = some (.slice none 0 0) := R1.out.cell 5
    have z6 := R1.out.frozen 6
    have y6 : w1.cell? ⟨w.heap.size, 6, none⟩ = some (.slice none 0 0) := R1.out.cell 6
    go_wp2_with fail
    refine gen_bod fun w8 h8 => ?_
    have T8 : Hid (Tw w1 w8 w.heap.size none) := hide (by rw [h8]; have q7 := Tw.set7 w1 w.heap.size (.int .i64 0) (.slice none 0 0) (.slice none 0 0) (.slice none 0 0) (.slice none 0 0) (.slice none 0 0) (.slice none 0 0); exact q7)
    have R8 : Hid (Blk w8 w.heap.size 27 #[.int .i64 0, .slice none 0 0, .slice none 0 0, .slice none 0 0, .slice none 0 0, .slice none 0 0, .slice none 0 0]) := hide (by rw [h8]; have q7 := (((((((R1.out.set_ 0 (.int .i64 0)).set_ 1 (.slice none 0 0)).set_ 2 (.slice none 0 0)).set_ 3 (.slice none 0 0)).set_ 4 (.slice none 0 0)).set_ 5 (.slice none 0 0)).set_ 6 (.slice none 0 0)); exact q7)
    have k0 : w8.cell? ⟨w.heap.size, 0, none⟩ = some (.int .i64 0) := R8.out.cell 0
    have k1 : w8.cell? ⟨w.heap.size, 1, none⟩ = some (.slice none 0 0) := R8.out.cell 1
    have k2 : w8.cell? ⟨w.heap.size, 2, none⟩ = some (.slice none 0 0) := R8.out.cell 2
    have k3 : w8.cell? ⟨w.heap.size, 3, none⟩ = some (.slice none 0 0) := R8.out.cell 3
    have k4 : w8.cell? ⟨w.heap.size, 4, none⟩ = some (.slice none 0 0) := R8.out.cell 4
    have k5 : w8.cell? ⟨w.heap.size, 5, none⟩ = some (.slice none 0 0) := R8.out.cell 5
    have k6 : w8.cell? ⟨w.heap.size, 6, none⟩ = some (.slice none 0 0) := R8.out.cell 6
    refine bodyPost_ret (v := .tuple #[.agg #[.int .i64 0, .slice none 0 0, .slice none 0 0, .slice none 0 0, .slice none 0 0, .slice none 0 0, .slice none 0 0], .int .i64 sf]) (by simp [results, Try.results7, go_sem, k0, k1, k2, k3, k4, k5, k6]) rfl ?_
    exact cm_bad HE.out HNZ.out (tw_ext' E1.out T8.out (Nat.le_refl _))
  case pos =>
  rw [hs] at HS
  by_cases hmq : m = q
  case neg =>
    have HE := hide (F2.out hs hmq)
    have d1 : ((m : Int) != (q : Int)) = true := by simp; omega
    clear F1 F2 F3 F4 F5 F6 HK hs
    go_enter Try.func7, Try.ntmps7
    go_wp2_with fail
    with_reducible refine HS.out.mono ?_
    rintro e w1 ⟨rfl, e1⟩
    have R1 := hide (R0.out.ext e1)
    have E1 := hide (Ext.trans E0.out e1)
    clear e1 HS R0 E0
    have z0 := R1.out.frozen 0
    have y0 : w1.cell? ⟨w.heap.size, 0, none⟩ = some (.int .i64 0) := R1.out.cell 0
    have z1 := R1.out.frozen 1
    have y1 : w1.cell? ⟨w.heap.size, 1, none⟩ = some (.slice none 0 0) := R1.out.cell 1
    have z2 := R1.out.frozen 2
    have y2 : w1.cell? ⟨w.heap.size, 2, none⟩ = some (.slice none 0 0) := R1.out.cell 2
    have z3 := R1.out.frozen 3
    have y3 : w1.cell? ⟨w.heap.size, 3, none⟩ = some (.slice none 0 0) := R1.out.cell 3
    have z4 := R1.out.frozen 4
    have y4 : w1.cell? ⟨w.heap.size, 4, none⟩ = some (.slice none 0 0) := R1.out.cell 4
    have z5 := R1.out.frozen 5
    have y5 : w1.cell? ⟨w.heap.size, 5, none⟩ = some (.slice none 0 0) := R1.out.cell 5
    have z6 := R1.out.frozen 6
    have y6 : w1.cell? ⟨w.heap.size, 6, none⟩ = some (.slice none 0 0) := R1.out.cell 6
    go_wp2_with fail
    refine gen_bod fun w8 h8 => ?_
    have T8 : Hid (Tw w1 w8 w.heap.size none) := hide (by rw [h8]; have q7 := Tw.set7 w1 w.heap.size (.int .i64 0) (.slice none 0 0) (.slice none 0 0) (.slice none 0 0) (.slice none 0 0) (.slice none 0 0) (.slice none 0 0); exact q7)
    have R8 : Hid (Blk w8 w.heap.size 27 #[.int .i64 0, .slice none 0 0, .slice none 0 0, .slice none 0 0, .slice none 0 0, .slice none 0 0, .slice none 0 0]) := hide (by rw [h8]; have q7 := (((((((R1.out.set_ 0 (.int .i64 0)).set_ 1 (.slice none 0 0)).set_ 2 (.slice none 0 0)).set_ 3 (.slice none 0 0)).set_ 4 (.slice none 0 0)).set_ 5 (.slice none 0 0)).set_ 6 (.slice none 0 0)); exact q7)
    have k0 : w8.cell? ⟨w.heap.size, 0, none⟩ = some (.int .i64 0) := R8.out.cell 0
    have k1 : w8.cell? ⟨w.heap.size, 1, none⟩ = some (.slice none 0 0) := R8.out.cell 1
    have k2 : w8.cell? ⟨w.heap.size, 2, none⟩ = some (.slice none 0 0) := R8.out.cell 2
    have k3 : w8.cell? ⟨w.heap.size, 3, none⟩ = some (.slice none 0 0) := R8.out.cell 3
    have k4 : w8.cell? ⟨w.heap.size, 4, none⟩ = some (.slice none 0 0) := R8.out.cell 4
    have k5 : w8.cell? ⟨w.heap.size, 5, none⟩ = some (.slice none 0 0) := R8.out.cell 5
    have k6 : w8.cell? ⟨w.heap.size, 6, none⟩ = some (.slice none 0 0) := R8.out.cell 6
    refine bodyPost_ret (v := .tuple #[.agg #[.int .i64 0, .slice none 0 0, .slice none 0 0, .slice none 0 0, .slice none 0 0, .slice none 0 0, .slice none 0 0], .int .i64 3]) (by simp [results, Try.results7, go_sem, k0, k1, k2, k3, k4, k5, k6]) rfl ?_
    exact cm_bad HE.out (by omega) (tw_ext' E1.out T8.out (Nat.le_refl _))
  case pos =>
  subst hmq
  have d1 : ((m : Int) != (m : Int)) = false := by simp
  have G3 := hide (F3.out hs rfl)
  have G4 := hide (F4.out hs rfl)
  have G5 := hide (F5.out hs rfl)
  have G6 := hide (F6.out hs rfl)
  have HZB := hide (fun (k : Nat) (hk : k < m) (ha : ∀ j, j < k → cqEl ch j = 0) (hn : cqEl ch k ≠ 0) => (firstF_at ha hn (n := ch.length) (by rw [HCL.out]; exact hk) : firstF (cqEl ch) ch.length = cqEl ch k))
  have HZO := hide (fun (ha : ∀ j, j < m → cqEl ch j = 0) => (firstF_zero (fun j hj => ha j (by rw [← HCL.out]; exact hj)) : firstF (cqEl ch) ch.length = 0))
  have HYB := hide (fun (k : Nat) (hk : k < m) (ha : ∀ j, j < k → qlEl pl j = 0) (hn : qlEl pl k ≠ 0) => (firstF_at ha hn (n := pl.length) (by rw [HPL.out]; exact hk) : firstF (qlEl pl) pl.length = qlEl pl k))
  have HYO := hide (fun (ha : ∀ j, j < m → qlEl pl j = 0) => (firstF_zero (fun j hj => ha j (by rw [← HPL.out]; exact hj)) : firstF (qlEl pl) pl.length = 0))
  clear F1 F2 F3 F4 F5 F6 hs
  go_enter Try.func7, Try.ntmps7
  go_wp2_with fail
  with_reducible refine HS.out.mono ?_
  rintro e w1 ⟨rfl, e1⟩
  have R1 := hide (R0.out.ext e1)
  have E1 := hide (Ext.trans E0.out e1)
  clear e1 HS R0 E0
  have z0 := R1.out.frozen 0
  have y0 : w1.cell? ⟨w.heap.size, 0, none⟩ = some (.int .i64 0) := R1.out.cell 0
  have z1 := R1.out.frozen 1
  have y1 : w1.cell? ⟨w.heap.size, 1, none⟩ = some (.slice none 0 0) := R1.out.cell 1
  have z2 := R1.out.frozen 2
  have y2 : w1.cell? ⟨w.heap.size, 2, none⟩ = some (.slice none 0 0) := R1.out.cell 2
  have z3 := R1.out.frozen 3
  have y3 : w1.cell? ⟨w.heap.size, 3, none⟩ = some (.slice none 0 0) := R1.out.cell 3
  have z4 := R1.out.frozen 4
  have y4 : w1.cell? ⟨w.heap.size, 4, none⟩ = some (.slice none 0 0) := R1.out.cell 4
  have z5 := R1.out.frozen 5
  have y5 : w1.cell? ⟨w.heap.size, 5, none⟩ = some (.slice none 0 0) := R1.out.cell 5
  have z6 := R1.out.frozen 6
  have y6 : w1.cell? ⟨w.heap.size, 6, none⟩ = some (.slice none 0 0) := R1.out.cell 6
  go_wp2_with fail
  go_loopw [9, 10] (fun r9 ri wr => ∃ k : Nat, k ≤ m ∧ ri = .int .i64 k ∧ r9 = .int .i64 (sumI ch k) ∧ Hid (∀ j, j < k → cqEl ch j = 0) ∧ Hid (w1 = wr)) (fun _ ri _ => m - (intOf ri).toNat)
  case atStart => exact ⟨0, by omega, rfl, rfl, hide (fun j hj => by omega), hide (by first | rfl | trivial)⟩
  case round =>
    obtain ⟨k, hk, rfl, rfl, HA, hw⟩ := hrel
    have hw := hw.out
    subst hw
    by_cases hlt : k < m
    · obtain ⟨b, off, rfl, _⟩ := HC.out.addr (by omega)
      have a0 := (HC.out.ext E1.out).num hlt
      have hel : cqEl ch k = if ch.getD k 0 < 1 ∨ 1000 < ch.getD k 0 then 1 else 0 := rfl
      have HSS : Hid (cqEl ch k = 0 → ∀ j, j < k + 1 → cqEl ch j = 0) := hide (fun h0 j hj => by
        rcases Nat.lt_succ_iff_lt_or_eq.1 hj with h | h
        · exact HA.out j h
        · rw [h]; exact h0)
      have HB := hide (HZB.out k hlt HA.out)
      have hbd := sumI_bd k HA.out
      have HSU : Hid (sumI ch (k + 1) = sumI ch k + ch.getD k 0) := hide rfl
      generalize ch.getD k 0 = x at *
      generalize sumI ch k = sm at *
      have i1 : (k : Int) < (m : Int) := by omega
      have i0 : (0 : Int) ≤ (k : Int) := by omega
      have i8 : IntKind.i64.wrap ((k : Int) + 1) = (k : Int) + 1 := by rw [IntKind.wrap_i64]; omega
      by_cases hx : x < 1 ∨ 1000 < x
      · rw [if_pos hx] at hel
        have HE := hide (G3.out (by have := HB.out (by omega); omega))
        clear hel G3 G4 G5 G6 HB HSS HZB HZO HYB HYO HK
        go_wp2_with ((go_at_call 23; with_reducible refine (within_no hx _).mono ?_); rintro e w' ⟨rfl, rfl⟩)
        refine gen_bod fun w8 h8 => ?_
        have T8 : Hid (Tw w1 w8 w.heap.size none) := hide (by rw [h8]; have q7 := Tw.set7 w1 w.heap.size (.int .i64 0) (.slice none 0 0) (.slice none 0 0) (.slice none 0 0) (.slice none 0 0) (.slice none 0 0) (.slice none 0 0); exact q7)
        have R8 : Hid (Blk w8 w.heap.size 27 #[.int .i64 0, .slice none 0 0, .slice none 0 0, .slice none 0 0, .slice none 0 0, .slice none 0 0, .slice none 0 0]) := hide (by rw [h8]; have q7 := (((((((R1.out.set_ 0 (.int .i64 0)).set_ 1 (.slice none 0 0)).set_ 2 (.slice none 0 0)).set_ 3 (.slice none 0 0)).set_ 4 (.slice none 0 0)).set_ 5 (.slice none 0 0)).set_ 6 (.slice none 0 0)); exact q7)
        have k0 : w8.cell? ⟨w.heap.size, 0, none⟩ = some (.int .i64 0) := R8.out.cell 0
        have k1 : w8.cell? ⟨w.heap.size, 1, none⟩ = some (.slice none 0 0) := R8.out.cell 1
        have k2 : w8.cell? ⟨w.heap.size, 2, none⟩ = some (.slice none 0 0) := R8.out.cell 2
        have k3 : w8.cell? ⟨w.heap.size, 3, none⟩ = some (.slice none 0 0) := R8.out.cell 3
        have k4 : w8.cell? ⟨w.heap.size, 4, none⟩ = some (.slice none 0 0) := R8.out.cell 4
        have k5 : w8.cell? ⟨w.heap.size, 5, none⟩ = some (.slice none 0 0) := R8.out.cell 5
        have k6 : w8.cell? ⟨w.heap.size, 6, none⟩ = some (.slice none 0 0) := R8.out.cell 6
        refine bodyPost_ret (v := .tuple #[.agg #[.int .i64 0, .slice none 0 0, .slice none 0 0, .slice none 0 0, .slice none 0 0, .slice none 0 0, .slice none 0 0], .int .i64 1]) (by simp [results, Try.results7, go_sem, k0, k1, k2, k3, k4, k5, k6]) rfl ?_
        exact cm_bad HE.out (by omega) (tw_ext' E1.out T8.out (Nat.le_refl _))
      · rw [if_neg hx] at hel
        have hx2 : 1 ≤ x ∧ x ≤ 1000 := by omega
        have HE := hide (HSS.out hel)
        have i9 : IntKind.i64.wrap (sm + x) = sm + x := by rw [IntKind.wrap_i64]; omega
        clear hel hx
        go_wp2_with ((go_at_call 23; with_reducible refine (within_yes hx2 _).mono ?_); rintro e w' ⟨rfl, rfl⟩)
        exact ⟨⟨k + 1, by omega, by go_num, by rw [HSU.out], HE, hide (by first | rfl | trivial)⟩, by simp [intOf]; omega⟩
    · obtain rfl : k = m := by omega
      have HZZ := hide (HZO.out HA.out)
      clear hlt HZB HZO HA G3
      generalize sumI ch k = sm at *
      by_cases hsn : sm = (n : Int)
      case neg =>
        have HE := hide (G4.out HZZ.out hsn)
        have d2 : (sm != (n : Int)) = true := by simp [hsn]
        clear G4 G5 G6 HYB HYO HK
        go_wp2_with fail
        refine gen_bod fun w8 h8 => ?_
        have T8 : Hid (Tw w1 w8 w.heap.size none) := hide (by rw [h8]; have q7 := Tw.set7 w1 w.heap.size (.int .i64 0) (.slice none 0 0) (.slice none 0 0) (.slice none 0 0) (.slice none 0 0) (.slice none 0 0) (.slice none 0 0); exact q7)
        have R8 : Hid (Blk w8 w.heap.size 27 #[.int .i64 0, .slice none 0 0, .slice none 0 0, .slice none 0 0, .slice none 0 0, .slice none 0 0, .slice none 0 0]) := hide (by rw [h8]; have q7 := (((((((R1.out.set_ 0 (.int .i64 0)).set_ 1 (.slice none 0 0)).set_ 2 (.slice none 0 0)).set_ 3 (.slice none 0 0)).set_ 4 (.slice none 0 0)).set_ 5 (.slice none 0 0)).set_ 6 (.slice none 0 0)); exact q7)
        have k0 : w8.cell? ⟨w.heap.size, 0, none⟩ = some (.int .i64 0) := R8.out.cell 0
        have k1 : w8.cell? ⟨w.heap.size, 1, none⟩ = some (.slice none 0 0) := R8.out.cell 1
        have k2 : w8.cell? ⟨w.heap.size, 2, none⟩ = some (.slice none 0 0) := R8.out.cell 2
        have k3 : w8.cell? ⟨w.heap.size, 3, none⟩ = some (.slice none 0 0) := R8.out.cell 3
        have k4 : w8.cell? ⟨w.heap.size, 4, none⟩ = some (.slice none 0 0) := R8.out.cell 4
        have k5 : w8.cell? ⟨w.heap.size, 5, none⟩ = some (.slice none 0 0) := R8.out.cell 5
        have k6 : w8.cell? ⟨w.heap.size, 6, none⟩ = some (.slice none 0 0) := R8.out.cell 6
        refine bodyPost_ret (v := .tuple #[.agg #[.int .i64 0, .slice none 0 0, .slice none 0 0, .slice none 0 0, .slice none 0 0, .slice none 0 0, .slice none 0 0], .int .i64 3]) (by simp [results, Try.results7, go_sem, k0, k1, k2, k3, k4, k5, k6]) rfl ?_
        exact cm_bad HE.out (by omega) (tw_ext' E1.out T8.out (Nat.le_refl _))
      case pos =>
      have K5 := hide (G5.out HZZ.out hsn)
      have K6 := hide (G6.out HZZ.out hsn)
      have d2 : (sm != (n : Int)) = false := by simp [hsn]
      clear G4 G5 G6
      go_wp2_with fail
      go_loopw [11] (fun ri wr => ∃ i : Nat, i ≤ k ∧ ri = .int .i64 i ∧ Hid (∀ j, j < i → qlEl pl j = 0) ∧ Hid (w1 = wr)) (fun ri _ => k - (intOf ri).toNat)
      case atStart => exact ⟨0, by omega, rfl, hide (fun j hj => by omega), hide (by first | rfl | trivial)⟩
      case round =>
        obtain ⟨i, hi, rfl, HA, hw⟩ := hrel
        have hw := hw.out
        subst hw
        by_cases hit : i < k
        · obtain ⟨b, off, rfl, _⟩ := HP.out.addr (by omega)
          have a0 := (HP.out.ext E1.out).num hit
          have hel : qlEl pl i = if pl.getD i 0 < 0 ∨ 1000000 < pl.getD i 0 then 1 else 0 := rfl
          have HSS : Hid (qlEl pl i = 0 → ∀ j, j < i + 1 → qlEl pl j = 0) := hide (fun h0 j hj => by
            rcases Nat.lt_succ_iff_lt_or_eq.1 hj with h | h
            · exact HA.out j h
            · rw [h]; exact h0)
          have HB := hide (HYB.out i hit HA.out)
          generalize pl.getD i 0 = x at *
          have i1 : (i : Int) < (k : Int) := by omega
          have i0 : (0 : Int) ≤ (i : Int) := by omega
          have i8 : IntKind.i64.wrap ((i : Int) + 1) = (i : Int) + 1 := by rw [IntKind.wrap_i64]; omega
          by_cases hx : x < 0 ∨ 1000000 < x
          · rw [if_pos hx] at hel
            have HE := hide (K5.out (by have := HB.out (by omega); omega))
            clear hel K5 K6 HB HSS HYB HYO HK
            go_wp2_with ((go_at_call 23; with_reducible refine (within_no hx _).mono ?_); rintro e w' ⟨rfl, rfl⟩)
            refine gen_bod fun w8 h8 => ?_
            have T8 : Hid (Tw w1 w8 w.heap.size none) := hide (by rw [h8]; have q7 := Tw.set7 w1 w.heap.size (.int .i64 0) (.slice none 0 0) (.slice none 0 0) (.slice none 0 0) (.slice none 0 0) (.slice none 0 0) (.slice none 0 0); exact q7)
            have R8 : Hid (Blk w8 w.heap.size 27 #[.int .i64 0, .slice none 0 0, .slice none 0 0, .slice none 0 0, .slice none 0 0, .slice none 0 0, .slice none 0 0]) := hide (by rw [h8]; have q7 := (((((((R1.out.set_ 0 (.int .i64 0)).set_ 1 (.slice none 0 0)).set_ 2 (.slice none 0 0)).set_ 3 (.slice none 0 0)).set_ 4 (.slice none 0 0)).set_ 5 (.slice none 0 0)).set_ 6 (.slice none 0 0)); exact q7)
            have k0 : w8.cell? ⟨w.heap.size, 0, none⟩ = some (.int .i64 0) := R8.out.cell 0
            have k1 : w8.cell? ⟨w.heap.size, 1, none⟩ = some (.slice none 0 0) := R8.out.cell 1
            have k2 : w8.cell? ⟨w.heap.size, 2, none⟩ = some (.slice none 0 0) := R8.out.cell 2
            have k3 : w8.cell? ⟨w.heap.size, 3, none⟩ = some (.slice none 0 0) := R8.out.cell 3
            have k4 : w8.cell? ⟨w.heap.size, 4, none⟩ = some (.slice none 0 0) := R8.out.cell 4
            have k5 : w8.cell? ⟨w.heap.size, 5, none⟩ = some (.slice none 0 0) := R8.out.cell 5
            have k6 : w8.cell? ⟨w.heap.size, 6, none⟩ = some (.slice none 0 0) := R8.out.cell 6
            refine bodyPost_ret (v := .tuple #[.agg #[.int .i64 0, .slice none 0 0, .slice none 0 0, .slice none 0 0, .slice none 0 0, .slice none 0 0, .slice none 0 0], .int .i64 1]) (by simp [results, Try.results7, go_sem, k0, k1, k2, k3, k4, k5, k6]) rfl ?_
            exact cm_bad HE.out (by omega) (tw_ext' E1.out T8.out (Nat.le_refl _))
          · rw [if_neg hx] at hel
            have hx2 : 0 ≤ x ∧ x ≤ 1000000 := by omega
            have HE := hide (HSS.out hel)
            clear hel hx
            go_wp2_with ((go_at_call 23; with_reducible refine (within_yes hx2 _).mono ?_); rintro e w' ⟨rfl, rfl⟩)
            exact ⟨⟨i + 1, by omega, by go_num, HE, hide (by first | rfl | trivial)⟩, by simp [intOf]; omega⟩
        · obtain rfl : i = k := by omega
          have HE := hide (K6.out (HYO.out HA.out))
          have HKK := hide (HK.out HE.out)
          clear hit HYB HYO HA K5 K6 HK
          go_wp2_with fail
          with_reducible refine (HKK.out _ E1.out).mono ?_
          rintro e w2 ⟨v, rfl, hv, e2⟩
          obtain ⟨sA, sn, sc, hA, hn, hc, zA, zn, zc, kA, kn, kc, cA, cn, cc, pA, pn, pc, rfl, t2, hlo⟩ := hv
          have hlt1 : w.heap.size < w1.heap.size := R1.out.lt
          have HNE := hide (fun (a : Addr) (ha : sA = some a ∨ hA = some a ∨ zA = some a ∨ kA = some a ∨ cA = some a ∨ pA = some a) => (by have := hlo a ha; omega : a.block ≠ w.heap.size))
          clear hlo hlt1
          have T2 := hide t2
          have R2 := hide (R1.out.ext e2)
          have E2 := hide (Ext.trans E1.out e2)
          clear t2 e2 y0 y1 y2 y3 y4 y5 y6 z0 z1 z2 z3 z4 z5 z6 R1 E1
          have z0 := R2.out.frozen 0
          have y0 : w2.cell? ⟨w.heap.size, 0, none⟩ = some (.int .i64 0) := R2.out.cell 0
          have z1 := R2.out.frozen 1
          have y1 : w2.cell? ⟨w.heap.size, 1, none⟩ = some (.slice none 0 0) := R2.out.cell 1
          have z2 := R2.out.frozen 2
          have y2 : w2.cell? ⟨w.heap.size, 2, none⟩ = some (.slice none 0 0) := R2.out.cell 2
          have z3 := R2.out.frozen 3
          have y3 : w2.cell? ⟨w.heap.size, 3, none⟩ = some (.slice none 0 0) := R2.out.cell 3
          have z4 := R2.out.frozen 4
          have y4 : w2.cell? ⟨w.heap.size, 4, none⟩ = some (.slice none 0 0) := R2.out.cell 4
          have z5 := R2.out.frozen 5
          have y5 : w2.cell? ⟨w.heap.size, 5, none⟩ = some (.slice none 0 0) := R2.out.cell 5
          have z6 := R2.out.frozen 6
          have y6 : w2.cell? ⟨w.heap.size, 6, none⟩ = some (.slice none 0 0) := R2.out.cell 6
          go_wp2_with fail
          refine gen_bod fun w8 h8 => ?_
          have T8 : Hid (Tw w2 w8 w.heap.size none) := hide (by rw [h8]; have q7 := Tw.set7 w2 w.heap.size (.int .i64 t.start) (.slice sA sn sc) (.slice hA hn hc) (.slice zA zn zc) (.slice kA kn kc) (.slice cA cn cc) (.slice pA pn pc); exact q7)
          have R8 : Hid (Blk w8 w.heap.size 27 #[.int .i64 t.start, .slice sA sn sc, .slice hA hn hc, .slice zA zn zc, .slice kA kn kc, .slice cA cn cc, .slice pA pn pc]) := hide (by rw [h8]; have q7 := (((((((R2.out.set_ 0 (.int .i64 t.start)).set_ 1 (.slice sA sn sc)).set_ 2 (.slice hA hn hc)).set_ 3 (.slice zA zn zc)).set_ 4 (.slice kA kn kc)).set_ 5 (.slice cA cn cc)).set_ 6 (.slice pA pn pc)); exact q7)
          have k0 : w8.cell? ⟨w.heap.size, 0, none⟩ = some (.int .i64 t.start) := R8.out.cell 0
          have k1 : w8.cell? ⟨w.heap.size, 1, none⟩ = some (.slice sA sn sc) := R8.out.cell 1
          have k2 : w8.cell? ⟨w.heap.size, 2, none⟩ = some (.slice hA hn hc) := R8.out.cell 2
          have k3 : w8.cell? ⟨w.heap.size, 3, none⟩ = some (.slice zA zn zc) := R8.out.cell 3
          have k4 : w8.cell? ⟨w.heap.size, 4, none⟩ = some (.slice kA kn kc) := R8.out.cell 4
          have k5 : w8.cell? ⟨w.heap.size, 5, none⟩ = some (.slice cA cn cc) := R8.out.cell 5
          have k6 : w8.cell? ⟨w.heap.size, 6, none⟩ = some (.slice pA pn pc) := R8.out.cell 6
          refine bodyPost_ret (v := .tuple #[.agg #[.int .i64 t.start, .slice sA sn sc, .slice hA hn hc, .slice zA zn zc, .slice kA kn kc, .slice cA cn cc, .slice pA pn pc], .int .i64 0]) (by simp [results, Try.results7, go_sem, k0, k1, k2, k3, k4, k5, k6]) rfl ?_
          exact ⟨_, by rw [HE.out], by rw [HE.out, if_pos rfl]; exact ⟨_, _, _, _, _, _, _, _, _, _, _, _, _, _, _, _, _, _, rfl, ⟨T2.out.steps.tw T8.out (fun a ha => ⟨HNE.out a (by simp [ha]), by simp⟩), T2.out.shifts.tw T8.out (fun a ha => ⟨HNE.out a (by simp [ha]), by simp⟩), T2.out.sizes.tw T8.out (fun a ha => ⟨HNE.out a (by simp [ha]), by simp⟩), T2.out.keys.tw T8.out (fun a ha => ⟨HNE.out a (by simp [ha]), by simp⟩), T2.out.nok, T2.out.chunks.tw T8.out (fun a ha => ⟨HNE.out a (by simp [ha]), by simp⟩), T2.out.places.tw T8.out (fun a ha => ⟨HNE.out a (by simp [ha]), by simp⟩)⟩⟩, tw_ext' E2.out T8.out (Nat.le_refl _)⟩
end Go.Proofs.Ytkdmfkpkelnheaa
