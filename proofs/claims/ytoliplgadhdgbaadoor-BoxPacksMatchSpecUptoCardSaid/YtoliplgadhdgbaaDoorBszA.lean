/- Walk: sizeOf (program). Conditions as stated. -/
import Derived.Test.YtoliplgadhdgbaaDoorBbkQ
import Derived.Test.YtoliplgadhdgbaaDoorSamB
namespace Go.Proofs.YtoliplgadhdgbaaDoor
open Go.RowKit
theorem BxsAt.ext {w w' : World} {G : Nat → Prop} (he : Ext w w') {A : Option Addr} {n c : Nat} {l : List BoxT} (h : BxsAt w G A n c l) : BxsAt w' G A n c l := by
  induction h with
  | mk hs l h hg hl h1 _ ih => exact .mk hs l (h.ext he) hg hl (fun i y x hy hx => ⟨(h1 i y x hy hx).1, (h1 i y x hy hx).2.1, (h1 i y x hy hx).2.2.1.ext he, (h1 i y x hy hx).2.2.2⟩) ih
theorem BxHd.ext {w w' : World} {G : Nat → Prop} {y : BoxH} {x : BoxT} (he : Ext w w') (h : BxHd w G y x) : BxHd w' G y x := ⟨h.1, h.2.1, h.2.2.1.ext he, h.2.2.2⟩
theorem sizeT_eq (x : BoxT) : sizeT x = 8 + x.data.length + (if x.form = 1 then 8 else 0) + sizeL x.kids := by cases x; rw [sizeT]; rfl
theorem sizeL_app : ∀ (a b : List BoxT), sizeL (a ++ b) = sizeL a + sizeL b
  | [], b => by simp [sizeL]
  | x :: a, b => by rw [List.cons_append, sizeL, sizeL, sizeL_app a b]; omega
theorem sizeL_take {l : List BoxT} {k : Nat} (h : k < l.length) : sizeL (l.take (k + 1)) = sizeL (l.take k) + sizeT l[k] := by
  rw [List.take_succ_eq_append_getElem h, sizeL_app]; simp [sizeL]
theorem sizeL_le (l : List BoxT) (k : Nat) : sizeL (l.take k) ≤ sizeL l := by
  conv => rhs; rw [← List.take_append_drop k l, sizeL_app]
  omega
/-- A box as a value. -/
abbrev bxV (y : BoxH) (x : BoxT) : Value := .agg #[.string ⟨x.kind.toArray⟩, .int .i64 x.form, .slice y.dA y.dn y.dc, .slice y.kA y.kn y.kc]
def SizStmt (s : Nat) : Prop := ∀ {x : BoxT} {y : BoxH} {w : World} {G : Nat → Prop}, SizeOf.sizeOf x ≤ s → BxHd w G y x → BxsAt w G y.kA y.kn y.kc x.kids → sizeT x < 4611686018427387904 →
  Calls Tryd.prog 22 #[bxV y x] w fun e w' => e = .returned (.int .i64 (sizeT x : Int)) ∧ Ext w w'
set_option linter.unusedVariables false in
set_option maxRecDepth 100000 in
set_option maxHeartbeats 4000000 in
theorem size_step (s : Nat) (ih : ∀ s', s' < s → SizStmt s') : SizStmt s := by
  intro x y w G hs hh hk hb
  show Calls Tryd.prog 22 #[.agg #[.string ⟨x.kind.toArray⟩, .int .i64 x.form, .slice y.dA y.dn y.dc, .slice y.kA y.kn y.kc]] w _
  have hd := hh.2.2.1.len
  have hkl := hk.len
  obtain ⟨ys, ha, hy, hh1, hk1⟩ := hk.parts
  have HA := hide ha
  have HH1 := hide hh1
  have HK1 := hide hk1
  have IH := hide ih
  have HY := hide hy
  have HKL := hide hkl
  have hse := sizeT_eq x
  rw [hd] at hse
  have HSL := hide (fun (k : Nat) (h : k < x.kids.length) => sizeL_take h)
  have HSE := hide (fun (k : Nat) => sizeL_le x.kids k)
  have HSZ := hide (fun (k : Nat) (h : k < x.kids.length) => (by have := kids_lt x; have := elem_lt (List.getElem_mem h); omega : SizeOf.sizeOf x.kids[k] < s))
  have E0 := hide (Ext.alloc w (.cells #[.string ⟨x.kind.toArray⟩, .int .i64 x.form, .slice y.dA y.dn y.dc, .slice y.kA y.kn y.kc] 39))
  have HT : Hid (sizeL (x.kids.take y.kn) = sizeL x.kids) := hide (by rw [← hkl, List.take_length])
  have hkb := ha.bound
  have X0 := hide (Blk.new w 39 #[.string ⟨x.kind.toArray⟩, .int .i64 x.form, .slice y.dA y.dn y.dc, .slice y.kA y.kn y.kc])
  obtain ⟨S, hS⟩ : ∃ S, sizeT x = S := ⟨_, rfl⟩
  rw [hS] at hse hb ⊢
  have hl0 := HSE.out 0
  clear ha hh1 hk1 ih hy hkl hd hh hk hs hS
  generalize x.form = xf at *
  generalize x.kind = xk at *
  generalize y.dn = dn at *
  generalize y.dA = dA at *
  generalize y.dc = dc at *
  generalize y.kn = kn at *
  generalize y.kA = kA at *
  generalize y.kc = kc at *
  generalize x.kids = l at *
  obtain ⟨n1, hn1⟩ : ∃ n1, n1 = 8 + dn + (if xf = 1 then 8 else 0) := ⟨_, rfl⟩
  rw [← hn1] at hse
  have HN1 := hide hn1
  have hnb : n1 ≤ S := by omega
  have HSS := hide hse
  have HLE : Hid (∀ k, n1 + sizeL (l.take k) ≤ S) := hide (fun k => by have := HSE.out k; omega)
  have hdb : 8 + dn + 8 ≤ S + 8 := by split at hn1 <;> omega
  clear hse hn1 hl0
  go_enter Tryd.func22, Tryd.ntmps22
  go_upto_region 1 with (fail)
  refine gen_wpC fun w0 h0 => ?_
  have F0 : Hid (Ext w w0) := hide (by rw [h0]; exact E0.out)
  have Y0 := hide (show Blk w0 w.heap.size 39 #[.string ⟨xk.toArray⟩, .int .i64 xf, .slice dA dn dc, .slice kA kn kc] from by rw [h0]; exact X0.out)
  clear h0 E0 X0
  have y1 : w0.cell? ⟨w.heap.size, 1, none⟩ = some (.int .i64 xf) := Y0.out.cell 1
  have y2 : w0.cell? ⟨w.heap.size, 2, none⟩ = some (.slice dA dn dc) := Y0.out.cell 2
  have y3 : w0.cell? ⟨w.heap.size, 3, none⟩ = some (.slice kA kn kc) := Y0.out.cell 3
  have j1 : IntKind.i64.wrap (8 + (dn : Int)) = 8 + (dn : Int) := by rw [IntKind.wrap_i64]; omega
  have j2 : IntKind.i64.wrap (8 + (dn : Int) + 8) = 8 + (dn : Int) + 8 := by rw [IntKind.wrap_i64]; omega
  go_upto_if 12 with (fail)
  go_cut [3] (fun r3 wx => r3 = .int .i64 (n1 : Int) ∧ w0 = wx)
  case first =>
    by_cases hf : xf = 1
    · have HN2 : Hid ((n1 : Int) = 8 + (dn : Int) + 8) := hide (by have := HN1.out; rw [if_pos hf] at this; omega)
      subst hf
      go_wp2_with fail
      go_meet
      exact ⟨int_val HN2.out.symm, rfl⟩
    · have HN2 : Hid ((n1 : Int) = 8 + (dn : Int)) := hide (by have := HN1.out; rw [if_neg hf] at this; omega)
      have d0 : (xf == 1) = false := by rw [beq_eq_false_iff_ne]; exact hf
      go_wp2_with fail
      go_meet
      exact ⟨int_val HN2.out.symm, rfl⟩
  case rest =>
  obtain ⟨rfl, rfl⟩ := hcut
  clear j1 j2 y1 y2
  go_wp2_with fail
  go_loopw [3, 18] (fun r3 ri wr => ∃ k : Nat, k ≤ kn ∧ ri = .int .i64 k ∧ r3 = .int .i64 ((n1 + sizeL (l.take k) : Nat) : Int) ∧ Hid (Ext w0 wr)) (fun _ ri _ => kn - (intOf ri).toNat)
  case atStart => exact ⟨0, by omega, rfl, by simp [sizeL], hide (Ext.refl _)⟩
  case round =>
    obtain ⟨k, hk, rfl, rfl, HX⟩ := hrel
    by_cases hlt : k < kn
    · have hkl : k < l.length := by have := HKL.out; omega
      have hky : k < ys.length := by have := HY.out; omega
      have EX := Ext.trans F0.out HX.out
      have hat := HA.out.ext EX
      have hq := (HH1.out k _ _ (List.getElem?_eq_getElem hky) (List.getElem?_eq_getElem hkl)).ext EX
      have hr := (HK1.out k _ _ (List.getElem?_eq_getElem hky) (List.getElem?_eq_getElem hkl)).ext EX
      have hsz := HSZ.out k hkl
      have HSU := hide (HSL.out k hkl)
      have hle := HLE.out (k + 1)
      rw [HSU.out] at hle
      obtain ⟨b, o, rfl, _⟩ := hat.addr (by omega)
      have gy : ys.getD k default = ys[k] := by simp [List.getD, hky]
      generalize ys[k] = z at *
      generalize l[k] = u at *
      have a0 : wr.cell? ⟨b, o + k * 4, none⟩ = some (.string ⟨z.kind.toArray⟩) := hat.cellK hlt default 0 _ (by rw [gy]; rfl)
      have a1 : wr.cell? ⟨b, o + k * 4 + 1, none⟩ = some (.int .i64 z.form) := hat.cellK hlt default 1 _ (by rw [gy]; rfl)
      have a2 : wr.cell? ⟨b, o + k * 4 + 2, none⟩ = some (.slice z.dA z.dn z.dc) := hat.cellK hlt default 2 _ (by rw [gy]; rfl)
      have a3 : wr.cell? ⟨b, o + k * 4 + 3, none⟩ = some (.slice z.kA z.kn z.kc) := hat.cellK hlt default 3 _ (by rw [gy]; rfl)
      rw [hq.1] at a0
      rw [hq.2.1] at a1
      have HC := hide (IH.out _ hsz (Nat.le_refl _) (hq.ext (Ext.alloc wr (.cells #[.string ⟨u.kind.toArray⟩, .int .i64 u.form, .slice z.dA z.dn z.dc, .slice z.kA z.kn z.kc] 39))) (hr.ext (Ext.alloc wr (.cells #[.string ⟨u.kind.toArray⟩, .int .i64 u.form, .slice z.dA z.dn z.dc, .slice z.kA z.kn z.kc] 39))) (by omega))
      generalize sizeT u = su at *
      generalize sizeL (l.take k) = sl at *
      have i1 : (k : Int) < (kn : Int) := by omega
      have i0 : (0 : Int) ≤ (k : Int) := by omega
      have i8 : IntKind.i64.wrap ((k : Int) + 1) = (k : Int) + 1 := by rw [IntKind.wrap_i64]; omega
      have i9 : IntKind.i64.wrap (((n1 + sl : Nat) : Int) + (su : Int)) = ((n1 + (sl + su) : Nat) : Int) := by rw [IntKind.wrap_i64]; omega
      generalize ((n1 + sl : Nat) : Int) = acc at *
      clear hat hq hr hsz gy EX hky hkl
      go_wp2_with fail
      with_reducible refine HC.out.mono ?_
      rintro e w5 ⟨rfl, e5⟩
      have E5 := hide (Ext.trans HX.out (Ext.trans (Ext.alloc _ _) e5))
      clear e5
      go_wp2_with fail
      exact ⟨⟨k + 1, by omega, by go_num, int_val (by rw [HSU.out]; omega), E5⟩, by simp [intOf]; omega⟩
    · obtain rfl : k = kn := by omega
      have HE : Hid (((n1 + sizeL (l.take k) : Nat) : Int) = (S : Int)) := hide (by rw [HT.out]; have := HSS.out; omega)
      clear hlt
      go_wp2_with fail
      go_ret
      exact ⟨ret_int HE.out, Ext.trans F0.out HX.out⟩
theorem size_any (s : Nat) : SizStmt s := by
  induction s using Nat.strongRecOn with
  | _ s ih => exact size_step s ih
end Go.Proofs.YtoliplgadhdgbaaDoor
