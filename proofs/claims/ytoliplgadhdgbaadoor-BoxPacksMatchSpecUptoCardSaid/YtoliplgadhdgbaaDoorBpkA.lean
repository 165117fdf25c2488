/- Walk: boxesFault, pack, Pack (program). Conditions as stated. -/
import Derived.Test.YtoliplgadhdgbaaDoorBapB
import Derived.Test.YtoliplgadhdgbaaDoorBfaA
namespace Go.Proofs.YtoliplgadhdgbaaDoor
open Go.RowKit
theorem size_few (D : Nat) : ∀ (l : List BoxT) (dep c m : Nat), fauL l dep c = (0, m) → bndL D l → sizeL l + c * (16 + D) ≤ m * (16 + D)
  | [], dep, c, m, h, _ => by
    rw [fauL] at h; injection h with _ h2; subst h2; rw [sizeL]; omega
  | .mk k f d l :: r, dep, c, m, h, hb => by
    obtain ⟨_, _, m', h3, h4⟩ := fauL_ok h
    rw [bndL] at hb
    have i1 := size_few D l (dep + 1) (c + 1) m' h3 hb.2.2.1
    have i2 := size_few D r dep m' m h4 hb.2.2.2
    rw [Nat.add_mul] at i1
    have hd := hb.2.1
    rw [sizeL, sizeT]
    generalize c * (16 + D) = p at *
    generalize m' * (16 + D) = q at *
    generalize m * (16 + D) = z at *
    split <;> omega
theorem fau_max : ∀ (l : List BoxT) (dep c m : Nat), fauL l dep c = (0, m) → c ≤ 2000 → m ≤ 2000
  | [], dep, c, m, h, hc => by rw [fauL] at h; injection h with _ h2; omega
  | .mk k f d l :: r, dep, c, m, h, hc => by
    obtain ⟨h1, _, m', h3, h4⟩ := fauL_ok h
    exact fau_max r dep m' m h4 (fau_max l (dep + 1) (c + 1) m' h3 (by omega))
/-- The size of boxes without a fault. -/
theorem size_room {l : List BoxT} (hb : bndL 140737488355328 l) (hf : (fauL l 0 0).1 = 0) : sizeL l < 2305843009213693952 := by
  have h : fauL l 0 0 = (0, (fauL l 0 0).2) := by rw [← hf]
  have h1 := size_few _ l 0 0 _ h hb
  have h2 := fau_max l 0 0 _ h (by omega)
  have h3 : (fauL l 0 0).2 * (16 + 140737488355328) ≤ 2000 * (16 + 140737488355328) := Nat.mul_le_mul_right _ h2
  omega
/-- The fault of Pack. -/
def bfF (l : List BoxT) : Int := if (fauL l 0 0).1 ≠ 0 then (fauL l 0 0).1 else if 1000000 < sizeL l then 2 else 0
set_option linter.unusedVariables false in
set_option maxRecDepth 100000 in
set_option maxHeartbeats 4000000 in
theorem boxesFault_any {l : List BoxT} {w : World} {G : Nat → Prop} {A : Option Addr} {n c : Nat} (h : BxsAt w G A n c l) (hb : bndL 140737488355328 l) :
    Calls Tryd.prog 11 #[.slice A n c] w fun e w' => e = .returned (.int .i64 (bfF l)) ∧ Ext w w' := by
  have HF : Hid (Calls Tryd.prog 21 #[.pointer (some ⟨w.heap.size, 0, none⟩), .slice A n c, .int .i64 0] (w.alloc (.cells #[.int .i64 0] 46)) (FauGives (w.alloc (.cells #[.int .i64 0] 46)) w.heap.size (fauL l 0 0))) :=
    hide (fault_any _ (dep := 0) (cnt := 0) (Nat.le_refl _) hb h (Ext.alloc w (.cells #[.int .i64 0] 46)) (Nat.le_refl _) (Blk.new w 46 #[.int .i64 0]) (by omega) (by omega))
  have HB := hide (fun hf => size_room hb hf)
  have HH := hide h
  clear h hb
  go_enter Tryd.func11, Tryd.ntmps11
  go_wp2_with fail
  with_reducible refine HF.out.mono ?_
  rintro e w1 ⟨rfl, _, t1⟩
  have E1 := hide (tw_extB (Ext.alloc _ _) t1 (Nat.le_refl _))
  clear t1 HF
  have HV : Hid (bfF l = if (fauL l 0 0).1 ≠ 0 then (fauL l 0 0).1 else if 1000000 < sizeL l then 2 else 0) := hide rfl
  generalize (fauL l 0 0).1 = fz at *
  by_cases hz : fz = 0
  · have HRM := hide (HB.out hz)
    have HR : Hid (bfF l = if 1000000 < sizeL l then 2 else 0) := hide (by rw [HV.out, if_neg (by simp [hz])])
    subst hz
    clear HB HV
    obtain ⟨ys, ha, hy, hh1, hk1⟩ := HH.out.parts
    have HA := hide ha
    have HH1 := hide hh1
    have HK1 := hide hk1
    have HY := hide hy
    have HKL := hide HH.out.len
    have hkb := ha.bound
    have HSL := hide (fun (k : Nat) (h : k < l.length) => sizeL_take h)
    have HSE := hide (fun (k : Nat) => sizeL_le l k)
    have HT : Hid (sizeL (l.take n) = sizeL l) := hide (by rw [← HH.out.len, List.take_length])
    clear ha hh1 hk1 hy HH
    go_wp2_with fail
    go_loopw [5, 18] (fun r5 ri wr => ∃ k : Nat, k ≤ n ∧ ri = .int .i64 k ∧ r5 = .int .i64 ((sizeL (l.take k) : Nat) : Int) ∧ Hid (Ext w wr)) (fun _ ri _ => n - (intOf ri).toNat)
    case atStart => exact ⟨0, by omega, rfl, by simp [sizeL], E1⟩
    case round =>
      obtain ⟨k, hk, rfl, rfl, HX⟩ := hrel
      by_cases hlt : k < n
      · have hkl : k < l.length := by have := HKL.out; omega
        have hky : k < ys.length := by have := HY.out; omega
        have EX := HX.out
        have hat := HA.out.ext EX
        have hq := (HH1.out k _ _ (List.getElem?_eq_getElem hky) (List.getElem?_eq_getElem hkl)).ext EX
        have hr := (HK1.out k _ _ (List.getElem?_eq_getElem hky) (List.getElem?_eq_getElem hkl)).ext EX
        have HSU := hide (HSL.out k hkl)
        have hle := HSE.out (k + 1)
        have hrm := HRM.out
        rw [HSU.out] at hle
        obtain ⟨b, o, rfl, _⟩ := hat.addr (by omega)
        have gy : ys.getD k default = ys[k] := by simp [List.getD, hky]
        generalize ys[k] = z at *
        generalize l[k] = u at *
        have a0 : wr.cell? ⟨b, o + k * 4, none⟩ = some (.string ⟨z.kind.toArray⟩) := hat.cellK hlt default 0 _ (by rw [gy]; rfl)
        have a1 : wr.cell? ⟨b, o + k * 4 + 1, none⟩ = some (.int .i64 z.form) := hat.cellK hlt default 1 _ (by rw [gy]; rfl)
        have a2 : wr.cell? ⟨b, o + k * 4 + 2, none⟩ = some (.slice z.dA z.dn z.dc) := hat.cellK hlt default 2 _ (by rw [gy]; rfl)
        have a3 : wr.cell? ⟨b, o + k * 4 + 3, none⟩ = some (.slice z.kA z.kn z.kc) := hat.cellK hlt default 3 _ (by rw [gy]; rfl)
        rw [hq.1] at a0
        rw [hq.2.1] at a1
        have HC := hide (size_any _ (Nat.le_refl _) (hq.ext (Ext.alloc wr (.cells #[.string ⟨u.kind.toArray⟩, .int .i64 u.form, .slice z.dA z.dn z.dc, .slice z.kA z.kn z.kc] 39))) (hr.ext (Ext.alloc wr (.cells #[.string ⟨u.kind.toArray⟩, .int .i64 u.form, .slice z.dA z.dn z.dc, .slice z.kA z.kn z.kc] 39))) (by omega))
        generalize sizeT u = su at *
        generalize sizeL (l.take k) = sl at *
        have i1 : (k : Int) < (n : Int) := by omega
        have i0 : (0 : Int) ≤ (k : Int) := by omega
        have i8 : IntKind.i64.wrap ((k : Int) + 1) = (k : Int) + 1 := by rw [IntKind.wrap_i64]; omega
        have i9 : IntKind.i64.wrap ((sl : Int) + (su : Int)) = ((sl + su : Nat) : Int) := by rw [IntKind.wrap_i64]; omega
        generalize (sl : Int) = acc at *
        clear hat hq hr gy EX hky hkl hle hrm
        go_wp2_with fail
        with_reducible refine HC.out.mono ?_
        rintro e w5 ⟨rfl, e5⟩
        have E5 := hide (Ext.trans HX.out (Ext.trans (Ext.alloc _ _) e5))
        clear e5
        go_wp2_with fail
        exact ⟨⟨k + 1, by omega, by go_num, int_val (by rw [HSU.out]; omega), E5⟩, by simp [intOf]; omega⟩
      · obtain rfl : k = n := by omega
        have HQ := HR.out
        rw [← HT.out] at HQ
        generalize sizeL (l.take k) = S at *
        by_cases hgt : 1000000 < S
        · have d1 : (1000000 : Int) < (S : Int) := by omega
          rw [if_pos hgt] at HQ
          clear hlt hgt
          go_wp2_with fail
          go_ret
          exact ⟨ret_int HQ.symm, HX.out⟩
        · have d1 : ¬ (1000000 : Int) < (S : Int) := by omega
          rw [if_neg hgt] at HQ
          clear hlt hgt
          go_wp2_with fail
          go_ret
          first | exact ⟨ret_int HQ.symm, HX.out⟩ | exact ⟨ret_int rfl, HX.out⟩
  · have HR : Hid (bfF l = fz) := hide (by rw [HV.out, if_pos hz])
    have d0 : (fz == 0) = false := by rw [beq_eq_false_iff_ne]; exact hz
    clear HB HV
    go_wp2_with fail
    go_ret
    exact ⟨ret_int HR.out.symm, E1.out⟩
/-- No fault: what follows. -/
theorem bfF_zero {l : List BoxT} (h : bfF l = 0) : (fauL l 0 0).1 = 0 ∧ sizeL l ≤ 1000000 ∧ (bytL l).length = sizeL l := by
  unfold bfF at h
  by_cases h1 : (fauL l 0 0).1 ≠ 0
  · rw [if_pos h1] at h; exact absurd h h1
  rw [if_neg h1] at h
  have h2 : (fauL l 0 0).1 = 0 := by omega
  by_cases h3 : 1000000 < sizeL l
  · rw [if_pos h3] at h; omega
  exact ⟨h2, by omega, bytL_len l 0 0 (fauL l 0 0).2 (by rw [← h2])⟩
set_option linter.unusedVariables false in
set_option maxRecDepth 100000 in
set_option maxHeartbeats 4000000 in
theorem packB_any {l : List BoxT} {w : World} {G : Nat → Prop} {A : Option Addr} {n c : Nat} (h : BxsAt w G A n c l) (hs : sizeL l < 2305843009213693952) (hb : (bytL l).length ≤ 1000000000) :
    Calls Tryd.prog 12 #[.slice A n c] w fun e w' => ∃ v, e = .returned v ∧ Own w' w.heap.size 5 1 e8 v (bytL l) ∧ Ext w w' := by
  obtain ⟨ys, ha, hy, hh1, hk1⟩ := h.parts
  have HA := hide ha
  have HH1 := hide hh1
  have HK1 := hide hk1
  have HY := hide hy
  have HKL := hide h.len
  have hkb := ha.bound
  have HSB : Hid (∀ (k : Nat) (h : k < l.length), sizeT l[k] < 4611686018427387904) := hide (fun k h => by have h1 := sizeL_take h; have h2 := sizeL_le l (k + 1); omega)
  have HTK : Hid (∀ (k : Nat) (h : k < l.length), bytL (l.take (k + 1)) = bytL (l.take k) ++ bytT l[k]) := hide (fun k h => bytL_take h)
  have HTL : Hid (∀ (k : Nat), (bytL (l.take k)).length ≤ 1000000000) := hide (fun k => by have := bytL_le l k; omega)
  have HEND : Hid (bytL (l.take n) = bytL l) := hide (by rw [← h.len, List.take_length])
  clear ha hh1 hk1 hy h hs hb
  go_enter Tryd.func12, Tryd.ntmps12
  go_wp2_with fail
  go_loopw [3, 8] (fun r0 ri wr => ∃ k : Nat, k ≤ n ∧ ri = .int .i64 k ∧ Hid (Own wr w.heap.size 5 1 e8 r0 (bytL (l.take k))) ∧ Hid (Ext w wr)) (fun _ ri _ => n - (intOf ri).toNat)
  case atStart => exact ⟨0, by omega, rfl, hide (by rw [List.take_zero, bytL]; exact Own.nil _ _ _ _ _), hide (Ext.refl _)⟩
  case round =>
    obtain ⟨k, hk, rfl, HO, HX⟩ := hrel
    by_cases hlt : k < n
    · have hkl : k < l.length := by have := HKL.out; omega
      have hky : k < ys.length := by have := HY.out; omega
      have EX := HX.out
      have hat := HA.out.ext EX
      have hq := HH1.out k _ _ (List.getElem?_eq_getElem hky) (List.getElem?_eq_getElem hkl)
      have hr := HK1.out k _ _ (List.getElem?_eq_getElem hky) (List.getElem?_eq_getElem hkl)
      have hsb := HSB.out k hkl
      have HSU := hide (HTK.out k hkl)
      have hle := HTL.out (k + 1)
      rw [HSU.out, List.length_append] at hle
      obtain ⟨b, o, rfl, _⟩ := hat.addr (by omega)
      have gy : ys.getD k default = ys[k] := by simp [List.getD, hky]
      generalize ys[k] = z at *
      generalize l[k] = u at *
      have a0 : wr.cell? ⟨b, o + k * 4, none⟩ = some (.string ⟨z.kind.toArray⟩) := hat.cellK hlt default 0 _ (by rw [gy]; rfl)
      have a1 : wr.cell? ⟨b, o + k * 4 + 1, none⟩ = some (.int .i64 z.form) := hat.cellK hlt default 1 _ (by rw [gy]; rfl)
      have a2 : wr.cell? ⟨b, o + k * 4 + 2, none⟩ = some (.slice z.dA z.dn z.dc) := hat.cellK hlt default 2 _ (by rw [gy]; rfl)
      have a3 : wr.cell? ⟨b, o + k * 4 + 3, none⟩ = some (.slice z.kA z.kn z.kc) := hat.cellK hlt default 3 _ (by rw [gy]; rfl)
      rw [hq.1] at a0
      rw [hq.2.1] at a1
      have EA := hide (Ext.trans EX (Ext.alloc wr (.cells #[.string ⟨u.kind.toArray⟩, .int .i64 u.form, .slice z.dA z.dn z.dc, .slice z.kA z.kn z.kc] 39)))
      have OA := hide (HO.out.ext (Ext.alloc wr (.cells #[.string ⟨u.kind.toArray⟩, .int .i64 u.form, .slice z.dA z.dn z.dc, .slice z.kA z.kn z.kc] 39)))
      have HC := hide (app_any _ (Nat.le_refl _) hq hr EA.out (Nat.le_refl _) EA.out.size OA.out hsb hle)
      have HFR := hide (fun b hb => (OA.out.from b hb).1)
      generalize bytT u = bu at *
      generalize bytL (l.take k) = bk at *
      have i1 : (k : Int) < (n : Int) := by omega
      have i0 : (0 : Int) ≤ (k : Int) := by omega
      have i8 : IntKind.i64.wrap ((k : Int) + 1) = (k : Int) + 1 := by rw [IntKind.wrap_i64]; omega
      clear hat hq hr hsb gy EX hky hkl hle OA
      go_wp2_with fail
      with_reducible refine HC.out.mono ?_
      rintro e w5 ⟨v5, rfl, o5, g5⟩
      have O5 := hide o5
      have E5 := hide (Ext.gr EA.out g5.grown HFR.out)
      clear o5 g5
      go_wp2_with fail
      exact ⟨⟨k + 1, by omega, by go_num, hide (by rw [HSU.out]; exact O5.out), E5⟩, by simp [intOf]; omega⟩
    · obtain rfl : k = n := by omega
      rw [HEND.out] at HO
      clear hlt
      go_wp2_with fail
      go_ret
      exact ⟨_, rfl, HO.out, HX.out⟩
/-- What Pack gives. -/
def PkGives (l : List BoxT) (w : World) (e : Ending) (w' : World) : Prop := Ext w w' ∧ (bfF l ≠ 0 → e = .returned (.tuple #[.slice none 0 0, .int .i64 (bfF l)])) ∧ (bfF l = 0 → ∃ v, e = .returned (.tuple #[v, .int .i64 0]) ∧ Own w' w.heap.size 5 1 e8 v (bytL l))
set_option linter.unusedVariables false in
set_option maxRecDepth 100000 in
set_option maxHeartbeats 4000000 in
theorem keyPack_any {l : List BoxT} {w : World} {G : Nat → Prop} {A : Option Addr} {n c : Nat} (h : BxsAt w G A n c l) (hb : bndL 140737488355328 l) :
    Calls Tryd.prog 4 #[.slice A n c] w (PkGives l w) := by
  have HF := hide (boxesFault_any h hb)
  have HP := hide (fun (W : World) (hW : Ext w W) (hz : bfF l = 0) => packB_any (h.ext hW) (by have := (bfF_zero hz).2.1; omega) (by have := bfF_zero hz; omega))
  have HG : Hid (∀ e w', PkGives l w e w' ↔ (Ext w w' ∧ (bfF l ≠ 0 → e = .returned (.tuple #[.slice none 0 0, .int .i64 (bfF l)])) ∧ (bfF l = 0 → ∃ v, e = .returned (.tuple #[v, .int .i64 0]) ∧ Own w' w.heap.size 5 1 e8 v (bytL l)))) := hide (fun _ _ => Iff.rfl)
  clear h hb
  go_enter Tryd.func4, Tryd.ntmps4
  go_wp2_with fail
  with_reducible refine HF.out.mono ?_
  rintro e w1 ⟨rfl, e1⟩
  have E1 := hide e1
  clear e1 HF
  generalize bfF l = f at *
  by_cases hz : f = 0
  · have HC := hide (HP.out w1 E1.out hz)
    subst hz
    clear HP
    go_wp2_with fail
    with_reducible refine HC.out.mono ?_
    rintro e w2 ⟨v2, rfl, o2, e2⟩
    have O2 := hide (o2.more E1.out.size)
    have E2 := hide (Ext.trans E1.out e2)
    clear o2 e2
    go_wp2_with fail
    go_ret2
    exact (HG.out _ _).2 ⟨E2.out, fun h => absurd rfl h, fun _ => ⟨_, rfl, O2.out⟩⟩
  · have d0 : (f == 0) = false := by rw [beq_eq_false_iff_ne]; exact hz
    clear HP
    go_wp2_with fail
    go_ret2
    exact (HG.out _ _).2 ⟨E1.out, fun _ => rfl, fun h => absurd h hz⟩
end Go.Proofs.YtoliplgadhdgbaaDoor
