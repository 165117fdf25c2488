/- Walk: the fault of boxes (program's counter). Conditions as stated. -/
import Derived.Test.YtoliplgadhdgbaaDoorBszA
import Derived.Test.YtoliplgadhdgbaaDoorSmpA
namespace Go.Proofs.YtoliplgadhdgbaaDoor
open Go.RowKit
/-- The kinds and the data of boxes are not longer than so many bytes. -/
def bndL (D : Nat) : List BoxT → Prop
  | [] => True
  | .mk k _ d l :: r => k.length ≤ D ∧ d.length ≤ D ∧ bndL D l ∧ bndL D r
theorem bndL_get {D : Nat} : ∀ {l : List BoxT} {k : Nat} (_ : bndL D l) (hk : k < l.length), l[k].kind.length ≤ D ∧ l[k].data.length ≤ D ∧ bndL D l[k].kids
  | [], k, _, hk => absurd hk (Nat.not_lt_zero _)
  | .mk a f d l :: r, 0, h, _ => by rw [bndL] at h; exact ⟨h.1, h.2.1, h.2.2.1⟩
  | .mk a f d l :: r, k + 1, h, hk => by
    rw [bndL] at h
    exact bndL_get (l := r) (k := k) h.2.2.2 (by simpa using hk)
theorem fauL_count : ∀ (l : List BoxT) (dep c m : Nat), fauL l dep c = (0, m) → c ≤ 2000 → m ≤ 2000
  | [], dep, c, m, h, hc => by rw [fauL] at h; injection h with _ h; omega
  | .mk k f d l :: r, dep, c, m, h, hc => by
    obtain ⟨h1, _, m', h3, h4⟩ := fauL_ok h
    exact fauL_count r dep m' m h4 (fauL_count l _ _ m' h3 (by omega))
theorem fauL_mk (x : BoxT) (r : List BoxT) (dep c : Nat) : fauL (x :: r) dep c = if 2000 < c + 1 ∨ 8 ≤ dep then (2, c + 1)
    else if elB x.kind x.form x.data x.kids.length r.isEmpty ≠ 0 then (elB x.kind x.form x.data x.kids.length r.isEmpty, c + 1)
    else if (fauL x.kids (dep + 1) (c + 1)).1 ≠ 0 then fauL x.kids (dep + 1) (c + 1)
    else fauL r dep (fauL x.kids (dep + 1) (c + 1)).2 := by cases x; rw [fauL]; rfl
/-- What fault gives. -/
def FauGives (W : World) (gc : Nat) (r : Int × Nat) (e : Ending) (w' : World) : Prop := e = .returned (.int .i64 r.1) ∧ Blk w' gc 46 #[.int .i64 (r.2 : Int)] ∧ Tw W w' gc none
def FauStmt (s : Nat) : Prop := ∀ {l : List BoxT} {w W : World} {G : Nat → Prop} {A : Option Addr} {n c gc dep cnt : Nat}, SizeOf.sizeOf l ≤ s → bndL 140737488355328 l → BxsAt w G A n c l → Ext w W → w.heap.size ≤ gc → Blk W gc 46 #[.int .i64 (cnt : Int)] → dep ≤ 8 → cnt ≤ 2000 →
  Calls Tryd.prog 21 #[.pointer (some ⟨gc, 0, none⟩), .slice A n c, .int .i64 (dep : Int)] W (FauGives W gc (fauL l dep cnt))
theorem tw_extB {w W W' : World} {o : Nat} (h : Ext w W) (ht : Tw W W' o none) (ho : w.heap.size ≤ o) : Ext w W' :=
  ⟨ht.os.trans h.os, ht.tape.trans h.tape, ht.output.trans h.output, Nat.le_trans h.size ht.size, fun k hk => (ht.block k (Nat.lt_of_lt_of_le hk h.size) (by omega) (by simp)).trans (h.block k hk)⟩
theorem isKindL (k : List UInt8) (hk : k.length ≤ maxLen) (w : World) : Calls Tryd.prog 16 #[.string ⟨k.toArray⟩] w fun e w' => e = .returned (.bool (isKindB k)) ∧ w = w' := by
  have := isKind_any ⟨k.toArray⟩ w (by show k.toArray.size ≤ maxLen; simpa using hk)
  simpa using this
set_option linter.unusedVariables false in
set_option maxRecDepth 100000 in
set_option maxHeartbeats 8000000 in
theorem fault_step (s : Nat) (ih : ∀ s', s' < s → FauStmt s') : FauStmt s := by
  intro l w W G A n c gc dep cnt hs hbn hk hW hgc hB hdep hcnt
  have hkl := hk.len
  obtain ⟨ys, ha, hy, hh1, hk1⟩ := hk.parts
  have HA := hide ha
  have HH1 := hide hh1
  have HK1 := hide hk1
  have IH := hide ih
  have HY := hide hy
  have HKL := hide hkl
  have hb := ha.bound
  have HSZ := hide (fun (k : Nat) (h : k < l.length) => (by have := kids_lt l[k]; have := elem_lt (List.getElem_mem h); omega : SizeOf.sizeOf l[k].kids < s))
  have HBN := hide (fun (k : Nat) (h : k < l.length) => bndL_get hbn h)
  have HW := hide hW
  have B0 := hide hB
  clear ha hh1 hk1 ih hy hkl hk hs hW hB hbn
  go_enter Tryd.func21, Tryd.ntmps21
  go_wp2_with fail
  go_loopw [12] (fun ri wr => ∃ k ck : Nat, k ≤ n ∧ ri = .int .i64 k ∧ Hid (fauL l dep cnt = fauL (l.drop k) dep ck) ∧ Hid (ck ≤ 2000) ∧ Hid (Blk wr gc 46 #[.int .i64 (ck : Int)]) ∧ Hid (Tw W wr gc none)) (fun ri _ => n - (intOf ri).toNat)
  case atStart => exact ⟨0, cnt, by omega, rfl, hide (by rw [List.drop_zero]), hide hcnt, B0, hide (Tw.refl _ _ _)⟩
  case round =>
    obtain ⟨k, ck, hk, rfl, HF, HCK, HB, HT⟩ := hrel
    obtain ⟨wo, hwo⟩ : ∃ wo, wo = wr := ⟨_, rfl⟩
    subst hwo
    by_cases hlt : k < n
    · have hkl : k < l.length := by have := HKL.out; omega
      have hky : k < ys.length := by have := HY.out; omega
      have EX : Ext w wo := tw_extB HW.out HT.out hgc
      have hat := HA.out.ext EX
      have hq := (HH1.out k _ _ (List.getElem?_eq_getElem hky) (List.getElem?_eq_getElem hkl))
      have hr := (HK1.out k _ _ (List.getElem?_eq_getElem hky) (List.getElem?_eq_getElem hkl))
      have hsz := HSZ.out k hkl
      have hbk := HBN.out k hkl
      have hdr : l.drop k = l[k] :: l.drop (k + 1) := List.drop_eq_getElem_cons hkl
      have hem : (l.drop (k + 1)).isEmpty = decide (k + 1 = n) := by
        have h1 : (l.drop (k + 1)).length = n - (k + 1) := by rw [List.length_drop, HKL.out]
        cases hd : l.drop (k + 1) with
        | nil => rw [hd] at h1; simp at h1; simp; omega
        | cons x r => rw [hd] at h1; simp at h1; simp; omega
      have hf := HF.out
      rw [hdr, fauL_mk, hem] at hf
      obtain ⟨b, o, rfl, _⟩ := hat.addr (by omega)
      have gy : ys.getD k default = ys[k] := by simp [List.getD, hky]
      have hdl := hq.2.2.1.len
      have hkn := hr.len
      generalize ys[k] = z at *
      generalize l[k] = u at *
      have a0 : wo.cell? ⟨b, o + k * 4, none⟩ = some (.string ⟨z.kind.toArray⟩) := hat.cellK hlt default 0 _ (by rw [gy]; rfl)
      have a1 : wo.cell? ⟨b, o + k * 4 + 1, none⟩ = some (.int .i64 z.form) := hat.cellK hlt default 1 _ (by rw [gy]; rfl)
      have a2 : wo.cell? ⟨b, o + k * 4 + 2, none⟩ = some (.slice z.dA z.dn z.dc) := hat.cellK hlt default 2 _ (by rw [gy]; rfl)
      have a3 : wo.cell? ⟨b, o + k * 4 + 3, none⟩ = some (.slice z.kA z.kn z.kc) := hat.cellK hlt default 3 _ (by rw [gy]; rfl)
      rw [hq.1] at a0
      rw [hq.2.1] at a1
      have HCC := hide (fun (W' : World) (ck' : Nat) (h1 : Ext w W') (h2 : Blk W' gc 46 #[.int .i64 (ck' : Int)]) (h3 : dep < 8) (h4 : ck' ≤ 2000) => IH.out _ hsz (Nat.le_refl _) hbk.2.2 hr h1 hgc h2 (dep := dep + 1) (by omega) h4)
      have HIK := hide (isKindL u.kind (by have := hbk.1; unfold maxLen; omega))
      have HHK := hide (hasKids_any u.kind)
      have hdb : u.data.length ≤ 140737488355328 := hbk.2.1
      rw [hdl] at hdb
      have HDL := hide hdl
      have HKN := hide hkn
      have HFF := hide hf
      have hck := HCK.out
      clear hat hq hr hsz hdr hem hf gy EX hky hkl hdl hkn HF
      generalize u.kind = uk at *
      generalize u.form = uf at *
      generalize z.dA = dA at *
      generalize z.dn = dn at *
      generalize z.dc = dc at *
      generalize z.kA = kA at *
      generalize z.kn = kn at *
      generalize z.kc = kc at *
      have i1 : (k : Int) < (n : Int) := by omega
      have i0 : (0 : Int) ≤ (k : Int) := by omega
      have i8 : IntKind.i64.wrap ((k : Int) + 1) = (k : Int) + 1 := by rw [IntKind.wrap_i64]; omega
      have i9 : IntKind.i64.wrap ((ck : Int) + 1) = (ck : Int) + 1 := by rw [IntKind.wrap_i64]; omega
      have i7 : IntKind.i64.wrap ((dep : Int) + 1) = (dep : Int) + 1 := by rw [IntKind.wrap_i64]; omega
      have i6 : IntKind.i64.wrap ((n : Int) - 1) = (n : Int) - 1 := by rw [IntKind.wrap_i64]; omega
      have c0 : wo.cell? ⟨gc, 0, none⟩ = some (.int .i64 (ck : Int)) := HB.out.cell 0
      have f0 := HB.out.frozen 0
      have c0' : (wo.alloc (.cells #[.string ⟨uk.toArray⟩, .int .i64 uf, .slice dA dn dc, .slice kA kn kc] 39)).cell? ⟨gc, 0, none⟩ = some (.int .i64 (ck : Int)) := (Ext.alloc _ _).cell c0
      have f0' := (HB.out.alloc (.cells #[.string ⟨uk.toArray⟩, .int .i64 uf, .slice dA dn dc, .slice kA kn kc] 39)).frozen 0
      go_upto_region 5 with (fail)
      refine gen_wpC fun w4 h4 => ?_
      obtain ⟨xb, hxb⟩ : ∃ xb, xb = wo.heap.size := ⟨_, rfl⟩
      rw [← hxb]
      have hgx : gc ≠ xb := by have := HB.out.lt; omega
      have T4 : Hid (Tw W w4 gc none) := hide (by rw [h4]; exact (HT.out.trans (Tw.of_ext (Ext.alloc _ _) _ _)).trans (Tw.set_ _ _ _ _ _))
      have B4 : Hid (Blk w4 gc 46 #[.int .i64 ((ck : Int) + 1)]) := hide (by rw [h4]; exact (HB.out.alloc _).set_ 0 _)
      have X4 : Hid (Blk w4 xb 39 #[.string ⟨uk.toArray⟩, .int .i64 uf, .slice dA dn dc, .slice kA kn kc]) := hide (by rw [h4, hxb]; exact (Blk.new _ _ _).far (Ne.symm (by rw [← hxb]; exact hgx)) _)
      clear h4 hxb c0 f0 c0' f0' a0 a1 a2 a3 HB HT
      have c0 : w4.cell? ⟨gc, 0, none⟩ = some (.int .i64 ((ck : Int) + 1)) := B4.out.cell 0
      have x0 : w4.cell? ⟨xb, 0, none⟩ = some (.string ⟨uk.toArray⟩) := X4.out.cell 0
      have x1 : w4.cell? ⟨xb, 1, none⟩ = some (.int .i64 uf) := X4.out.cell 1
      have x2 : w4.cell? ⟨xb, 2, none⟩ = some (.slice dA dn dc) := X4.out.cell 2
      have x3 : w4.cell? ⟨xb, 3, none⟩ = some (.slice kA kn kc) := X4.out.cell 3
      have B4' : Hid (Blk w4 gc 46 #[.int .i64 (((ck + 1 : Nat)) : Int)]) := hide (by have := B4.out; rw [show (((ck + 1 : Nat)) : Int) = (ck : Int) + 1 by omega]; exact this)
      by_cases hlg : 2000 < ck + 1 ∨ 8 ≤ dep
      · have HE : Hid (fauL l dep cnt = (2, ck + 1)) := hide (by have := HFF.out; rw [if_pos hlg] at this; exact this)
        by_cases h1 : 2000 < ck + 1
        · have g1 : (2000 : Int) < (ck : Int) + 1 := by omega
          clear hlg h1 HFF
          go_wp2_with fail
          go_ret
          rw [HE.out]
          exact ⟨rfl, B4'.out, T4.out⟩
        · have g1 : ¬ (2000 : Int) < (ck : Int) + 1 := by omega
          have g2 : (8 : Int) ≤ (dep : Int) := by omega
          clear hlg h1 HFF
          go_wp2_with fail
          go_ret
          rw [HE.out]
          exact ⟨rfl, B4'.out, T4.out⟩
      have hlg1 : ¬ (2000 : Int) < (ck : Int) + 1 := by omega
      have hlg2 : ¬ (8 : Int) ≤ (dep : Int) := by omega
      have hfe := HFF.out
      rw [if_neg hlg] at hfe
      have HFE := hide hfe
      have HEL : Hid (elB uk uf u.data u.kids.length (decide (k + 1 = n)) = if isKindB uk = false then 5 else if uf < 0 ∨ 2 < uf then 4 else if (hasKidsB uk = true ∧ 0 < dn) ∨ (hasKidsB uk = false ∧ 0 < kn) then 3 else if uf = 2 ∧ decide (k + 1 = n) = false then 8 else 0) := hide (by unfold elB; rw [HDL.out, HKN.out])
      generalize elB uk uf u.data u.kids.length (decide (k + 1 = n)) = el at *
      have HER : Hid (el ≠ 0 → fauL l dep cnt = (el, ck + 1)) := hide (fun h => by rw [HFE.out, if_pos h])
      have HEN : Hid (el = 0 → fauL l dep cnt = if (fauL u.kids (dep + 1) (ck + 1)).1 ≠ 0 then fauL u.kids (dep + 1) (ck + 1) else fauL (l.drop (k + 1)) dep (fauL u.kids (dep + 1) (ck + 1)).2) := hide (fun h => by rw [HFE.out, if_neg (by omega)])
      have hel := HEL.out
      clear hfe HFE HEL HFF hlg
      cases hik : isKindB uk with
      | false =>
        rw [hik, if_pos rfl] at hel
        have HE := hide (HER.out (by omega))
        rw [hel] at HE
        rw [hik] at HIK
        clear hik HER HEN hel
        go_wp2_with (first | ((go_at_call 16; with_reducible refine (HIK.out _).mono ?_); rintro e w' ⟨rfl, rfl⟩) | ((go_at_call 31; with_reducible refine (HHK.out _).mono ?_); rintro e w' ⟨rfl, rfl⟩))
        go_ret
        rw [HE.out]
        exact ⟨rfl, B4'.out, T4.out⟩
      | true =>
      rw [hik, if_neg (by simp)] at hel
      rw [hik] at HIK
      clear hik
      by_cases hfo : uf < 0 ∨ 2 < uf
      · rw [if_pos hfo] at hel
        have HE := hide (HER.out (by omega))
        rw [hel] at HE
        clear HER HEN hel
        go_wp2_with (first | ((go_at_call 16; with_reducible refine (HIK.out _).mono ?_); rintro e w' ⟨rfl, rfl⟩) | ((go_at_call 31; with_reducible refine (HHK.out _).mono ?_); rintro e w' ⟨rfl, rfl⟩) | ((go_at_call 30; with_reducible refine (out_yes hfo _).mono ?_); rintro e w' ⟨rfl, rfl⟩))
        go_ret
        rw [HE.out]
        exact ⟨rfl, B4'.out, T4.out⟩
      rw [if_neg hfo] at hel
      have hfo2 : 0 ≤ uf ∧ uf ≤ 2 := by omega
      clear hfo
      cases hhk : hasKidsB uk with
      | true =>
        rw [hhk] at HHK hel
        by_cases hd0 : 0 < dn
        · rw [if_pos (.inl ⟨rfl, hd0⟩)] at hel
          have HE := hide (HER.out (by omega))
          rw [hel] at HE
          have g1 : (0 : Int) < (dn : Int) := by omega
          clear HER HEN hel hhk
          go_wp2_with (first | ((go_at_call 16; with_reducible refine (HIK.out _).mono ?_); rintro e w' ⟨rfl, rfl⟩) | ((go_at_call 31; with_reducible refine (HHK.out _).mono ?_); rintro e w' ⟨rfl, rfl⟩) | ((go_at_call 30; with_reducible refine (out_no hfo2 _).mono ?_); rintro e w' ⟨rfl, rfl⟩))
          go_ret
          rw [HE.out]
          exact ⟨rfl, B4'.out, T4.out⟩
        · rw [if_neg (by rintro (h | h); exact hd0 h.2; cases h.1)] at hel
          obtain rfl : dn = 0 := by omega
          go_upto_region 13 with (first | ((go_at_call 16; with_reducible refine (HIK.out _).mono ?_); rintro e w' ⟨rfl, rfl⟩) | ((go_at_call 31; with_reducible refine (HHK.out _).mono ?_); rintro e w' ⟨rfl, rfl⟩) | ((go_at_call 30; with_reducible refine (out_no hfo2 _).mono ?_); rintro e w' ⟨rfl, rfl⟩))
          by_cases hop : uf = 2 ∧ decide (k + 1 = n) = false
          · rw [if_pos hop] at hel
            have HE := hide (HER.out (by omega))
            rw [hel] at HE
            obtain ⟨rfl, hl⟩ := hop
            have hl2 := of_decide_eq_false hl
            have g1 : (k : Int) < (n : Int) - 1 := by omega
            clear HER HEN hel hl
            go_wp2_with fail
            go_ret
            rw [HE.out]
            exact ⟨rfl, B4'.out, T4.out⟩
          rw [if_neg hop] at hel
          have HE := hide (HEN.out hel)
          clear HER HEN hel
          go_cut [65] (fun sv wx => sv = .bool false ∧ w4 = wx)
          case first =>
            by_cases hu : uf = 2
            · have g1 : ¬ (k : Int) < (n : Int) - 1 := by
                have : k + 1 = n := Classical.byContradiction fun hc => hop ⟨hu, decide_eq_false hc⟩
                omega
              subst hu
              clear hop
              first | (go_wp2_with fail; go_meet; exact ⟨rfl, rfl⟩) | (go_region; go_wp2_with fail; go_meet; exact ⟨rfl, rfl⟩)
            · have d0 : (uf == 2) = false := by rw [beq_eq_false_iff_ne]; exact hu
              clear hop hu
              first | (go_wp2_with fail; go_meet; exact ⟨rfl, rfl⟩) | (go_region; go_wp2_with fail; go_meet; exact ⟨rfl, rfl⟩)
          case rest =>
          obtain ⟨rfl, rfl⟩ := hcut
          have HC := hide (HCC.out w4 (ck + 1) (tw_extB HW.out T4.out hgc) B4'.out (by omega) (by omega))
          rw [show ((dep + 1 : Nat) : Int) = (dep : Int) + 1 by omega] at HC
          have HCO := hide (fun m h => fauL_count u.kids (dep + 1) (ck + 1) m h (by omega))
          obtain ⟨rf, rc, hrr⟩ : ∃ rf rc, fauL u.kids (dep + 1) (ck + 1) = (rf, rc) := ⟨_, _, rfl⟩
          rw [hrr] at HC HE HCO
          have hrn := HE.out
          simp only at hrn
          have HE2 := hide hrn
          clear hop hrr HCC HE hrn
          go_wp2_with fail
          with_reducible refine HC.out.mono ?_
          rintro e w5 ⟨rfl, b5, t5⟩
          have B5 := hide b5
          have T5 := hide (T4.out.trans t5)
          clear b5 t5 HC
          by_cases hr0 : rf = 0
          · subst hr0
            have hq2 := HE2.out
            rw [if_neg (by simp)] at hq2
            have HE3 := hide hq2
            have HRC := hide (HCO.out rc rfl)
            clear hq2 HE2
            go_wp2_with fail
            exact ⟨⟨k + 1, rc, by omega, by go_num, HE3, HRC, B5, T5⟩, by simp [intOf]; omega⟩
          · have hq2 := HE2.out
            rw [if_pos hr0] at hq2
            have HE3 := hide hq2
            have d0 : (rf != 0) = true := by simp [hr0]
            clear hq2 HE2 hr0
            go_wp2_with fail
            go_ret
            rw [HE3.out]
            exact ⟨rfl, B5.out, T5.out⟩
      | false =>
        rw [hhk] at HHK hel
        by_cases hd0 : 0 < kn
        · rw [if_pos (.inr ⟨rfl, hd0⟩)] at hel
          have HE := hide (HER.out (by omega))
          rw [hel] at HE
          have g1 : (0 : Int) < (kn : Int) := by omega
          clear HER HEN hel hhk
          go_wp2_with (first | ((go_at_call 16; with_reducible refine (HIK.out _).mono ?_); rintro e w' ⟨rfl, rfl⟩) | ((go_at_call 31; with_reducible refine (HHK.out _).mono ?_); rintro e w' ⟨rfl, rfl⟩) | ((go_at_call 30; with_reducible refine (out_no hfo2 _).mono ?_); rintro e w' ⟨rfl, rfl⟩))
          go_ret
          rw [HE.out]
          exact ⟨rfl, B4'.out, T4.out⟩
        · rw [if_neg (by rintro (h | h); cases h.1; exact hd0 h.2)] at hel
          obtain rfl : kn = 0 := by omega
          go_upto_region 13 with (first | ((go_at_call 16; with_reducible refine (HIK.out _).mono ?_); rintro e w' ⟨rfl, rfl⟩) | ((go_at_call 31; with_reducible refine (HHK.out _).mono ?_); rintro e w' ⟨rfl, rfl⟩) | ((go_at_call 30; with_reducible refine (out_no hfo2 _).mono ?_); rintro e w' ⟨rfl, rfl⟩))
          by_cases hop : uf = 2 ∧ decide (k + 1 = n) = false
          · rw [if_pos hop] at hel
            have HE := hide (HER.out (by omega))
            rw [hel] at HE
            obtain ⟨rfl, hl⟩ := hop
            have hl2 := of_decide_eq_false hl
            have g1 : (k : Int) < (n : Int) - 1 := by omega
            clear HER HEN hel hl
            go_wp2_with fail
            go_ret
            rw [HE.out]
            exact ⟨rfl, B4'.out, T4.out⟩
          rw [if_neg hop] at hel
          have HE := hide (HEN.out hel)
          clear HER HEN hel
          go_cut [65] (fun sv wx => sv = .bool false ∧ w4 = wx)
          case first =>
            by_cases hu : uf = 2
            · have g1 : ¬ (k : Int) < (n : Int) - 1 := by
                have : k + 1 = n := Classical.byContradiction fun hc => hop ⟨hu, decide_eq_false hc⟩
                omega
              subst hu
              clear hop
              first | (go_wp2_with fail; go_meet; exact ⟨rfl, rfl⟩) | (go_region; go_wp2_with fail; go_meet; exact ⟨rfl, rfl⟩)
            · have d0 : (uf == 2) = false := by rw [beq_eq_false_iff_ne]; exact hu
              clear hop hu
              first | (go_wp2_with fail; go_meet; exact ⟨rfl, rfl⟩) | (go_region; go_wp2_with fail; go_meet; exact ⟨rfl, rfl⟩)
          case rest =>
          obtain ⟨rfl, rfl⟩ := hcut
          have HC := hide (HCC.out w4 (ck + 1) (tw_extB HW.out T4.out hgc) B4'.out (by omega) (by omega))
          rw [show ((dep + 1 : Nat) : Int) = (dep : Int) + 1 by omega] at HC
          have HCO := hide (fun m h => fauL_count u.kids (dep + 1) (ck + 1) m h (by omega))
          obtain ⟨rf, rc, hrr⟩ : ∃ rf rc, fauL u.kids (dep + 1) (ck + 1) = (rf, rc) := ⟨_, _, rfl⟩
          rw [hrr] at HC HE HCO
          have hrn := HE.out
          simp only at hrn
          have HE2 := hide hrn
          clear hop hrr HCC HE hrn
          go_wp2_with fail
          with_reducible refine HC.out.mono ?_
          rintro e w5 ⟨rfl, b5, t5⟩
          have B5 := hide b5
          have T5 := hide (T4.out.trans t5)
          clear b5 t5 HC
          by_cases hr0 : rf = 0
          · subst hr0
            have hq2 := HE2.out
            rw [if_neg (by simp)] at hq2
            have HE3 := hide hq2
            have HRC := hide (HCO.out rc rfl)
            clear hq2 HE2
            go_wp2_with fail
            exact ⟨⟨k + 1, rc, by omega, by go_num, HE3, HRC, B5, T5⟩, by simp [intOf]; omega⟩
          · have hq2 := HE2.out
            rw [if_pos hr0] at hq2
            have HE3 := hide hq2
            have d0 : (rf != 0) = true := by simp [hr0]
            clear hq2 HE2 hr0
            go_wp2_with fail
            go_ret
            rw [HE3.out]
            exact ⟨rfl, B5.out, T5.out⟩
    · obtain rfl : k = n := by omega
      have HE : Hid (fauL l dep cnt = (0, ck)) := hide (by rw [HF.out, ← HKL.out, List.drop_length, fauL])
      clear hlt
      go_wp2_with fail
      go_ret
      rw [HE.out]
      exact ⟨rfl, HB.out, HT.out⟩
theorem fault_any (s : Nat) : FauStmt s := by
  induction s using Nat.strongRecOn with
  | _ s ih => exact fault_step s ih
end Go.Proofs.YtoliplgadhdgbaaDoor
