/- Several texts in one: Walks: trackFault, CheckFilm (program). Conditions as stated; Walk: appendBox (program). Conditions as stated. -/
import Derived.Test.YtlonhkjplijlcaaMfd02
import Derived.Test.YtlonhkjplijlcaaMfd03
import Derived.Test.YtlonhkjplijlcaaMfd37
import Derived.Test.YtlonhkjplijlcaaMfd08
import Derived.Test.YtlonhkjplijlcaaMfd27
import Derived.Lib.AppendStr
namespace Go.Proofs.Ytlonhkjplijlcaa
open Go.RowKit
theorem noScale_any (n : Int) (w : World) : Calls Try.prog 39 #[.int .i64 n] w fun e w' => e = .returned (.bool (badSc n)) ∧ w = w' := by
  unfold badSc
  by_cases h : n < 1 ∨ 1000000000 < n
  · rw [decide_eq_true h]
    have HO := hide (out_yes h w)
    clear h
    go_enter Try.func39, Try.ntmps39
    go_wp2_with ((go_at_call 15; with_reducible refine HO.out.mono ?_); rintro e w' ⟨rfl, rfl⟩)
    go_ret
    exact ⟨rfl, rfl⟩
  · rw [decide_eq_false h]
    have HO := hide (out_no (lo := 1) (hi := 1000000000) (n := n) (by omega) w)
    clear h
    go_enter Try.func39, Try.ntmps39
    go_wp2_with ((go_at_call 15; with_reducible refine HO.out.mono ?_); rintro e w' ⟨rfl, rfl⟩)
    go_ret
    exact ⟨rfl, rfl⟩
abbrev tkV (y : TrkH) (x : TrkT) : Value := .agg #[.string ⟨x.name.toArray⟩, .int .i64 x.scale, .slice y.sA y.sn y.sc, .slice y.eA y.en y.ec]
set_option linter.unusedVariables false in
set_option maxRecDepth 100000 in
set_option maxHeartbeats 8000000 in
theorem trackFault_any {x : TrkT} {y : TrkH} {A : Option Addr} {n c : Nat} {hs : List TrkH} {l : List TrkT} {w : World} (hx : TkOk w y x) (h : TksAt w A n c hs l) (hn : x.name.length ≤ maxLen) :
    Calls Try.prog 40 #[tkV y x, .slice A n c] w fun e w' => e = .returned (.int .i64 (trF x l)) ∧ Ext w w' := by
  show Calls Try.prog 40 #[.agg #[.string ⟨x.name.toArray⟩, .int .i64 x.scale, .slice y.sA y.sn y.sc, .slice y.eA y.en y.ec], .slice A n c] w _
  have hs1 := hx.2.2.1
  have hs2 := hx.2.2.2
  have HVT : Hid (trF x l = if nameB ⟨x.name.toArray⟩ = false then 5 else if l.any (fun y => y.name == x.name) = true then 7 else if badSc x.scale = true then 1 else if smpF x.smp ≠ 0 then smpF x.smp else if 50 < x.ed.length then 2 else edF x.ed) := hide rfl
  have HIN := hide (fun (W : World) => isName_any ⟨x.name.toArray⟩ (by show x.name.toArray.size ≤ maxLen; rw [List.size_toArray]; assumption) W)
  have HNS := hide (fun (W : World) => noScale_any x.scale W)
  have HKS := hide (fun (W : World) (hW : Ext w W) => keySamples_any (hs1.ext hW))
  have HS2 := hide hs2
  have hel := hs2.len
  have HEL := hide hel
  have heb := hs2.bound
  have HAT := hide h.at_
  have HLN := hide h.len
  have HOK := hide h.ok
  have hnb := h.at_.bound
  have X0 := hide (Blk.new w 53 #[.string ⟨x.name.toArray⟩, .int .i64 x.scale, .slice y.sA y.sn y.sc, .slice y.eA y.en y.ec])
  have E0 := hide (Ext.alloc w (.cells #[.string ⟨x.name.toArray⟩, .int .i64 x.scale, .slice y.sA y.sn y.sc, .slice y.eA y.en y.ec] 53))
  rw [hel] at HVT
  clear hs1 hs2 hx h hn hel
  generalize trF x l = R at *
  generalize x.name = xn at *
  generalize x.scale = xs at *
  generalize x.ed = xe at *
  generalize y.sA = sA at *
  generalize y.sn = sn at *
  generalize y.sc = sc at *
  generalize y.eA = eA at *
  generalize y.en = en at *
  generalize y.ec = ec at *
  go_enter Try.func40, Try.ntmps40
  go_upto_region 1 with (fail)
  refine gen_wpC fun w0 h0 => ?_
  rw [← h0] at X0 E0
  obtain ⟨xb, hxb⟩ : ∃ xb, xb = w.heap.size := ⟨_, rfl⟩
  rw [← hxb] at X0 ⊢
  clear h0 hxb
  have x0 : w0.cell? ⟨xb, 0, none⟩ = some (.string ⟨xn.toArray⟩) := X0.out.cell 0
  cases hnm : nameB ⟨xn.toArray⟩ with
  | false =>
    have HE : Hid (R = 5) := hide (by rw [HVT.out, if_pos hnm])
    rw [hnm] at HIN
    clear hnm
    go_wp2_with fail
    with_reducible refine (HIN.out _).mono ?_
    rintro e w' ⟨rfl, rfl⟩
    go_wp2_with fail
    go_ret
    exact ⟨ret_int HE.out.symm, E0.out⟩
  | true =>
  have HVT2 : Hid (R = if l.any (fun y => y.name == xn) = true then 7 else if badSc xs = true then 1 else if smpF x.smp ≠ 0 then smpF x.smp else if 50 < en then 2 else edF xe) := hide (by rw [HVT.out, if_neg (by simp [hnm])])
  rw [hnm] at HIN
  clear hnm HVT
  go_wp2_with fail
  with_reducible refine (HIN.out _).mono ?_
  rintro e w' ⟨rfl, rfl⟩
  go_wp2_with fail
  clear x0 HIN
  go_loopw [17] (fun ri wr => ∃ k : Nat, k ≤ n ∧ ri = .int .i64 k ∧ Hid (∀ j, j < k → (l.getD j default).name ≠ xn) ∧ Hid (Ext w0 wr)) (fun ri _ => n - (intOf ri).toNat)
  case atStart => exact ⟨0, by omega, rfl, hide (fun j hj => absurd hj (Nat.not_lt_zero _)), hide (Ext.refl _)⟩
  case round =>
    obtain ⟨k, hk, rfl, HA, HX⟩ := hrel
    by_cases hlt : k < n
    · obtain ⟨b, o, rfl, _⟩ := HAT.out.addr (by omega)
      have EX := Ext.trans E0.out HX.out
      have hat := HAT.out.ext EX
      have hok := HOK.out k hlt
      obtain ⟨z, hz⟩ : ∃ z, hs.getD k default = z := ⟨_, rfl⟩
      have a0 : wr.cell? ⟨b, o + k * 4, none⟩ = some (.string ⟨z.name.toArray⟩) := hat.cellK hlt default 0 _ (by rw [hz]; rfl)
      have a1 : wr.cell? ⟨b, o + k * 4 + 1, none⟩ = some (.int .i64 z.scale) := hat.cellK hlt default 1 _ (by rw [hz]; rfl)
      have a2 : wr.cell? ⟨b, o + k * 4 + 2, none⟩ = some (.slice z.sA z.sn z.sc) := hat.cellK hlt default 2 _ (by rw [hz]; rfl)
      have a3 : wr.cell? ⟨b, o + k * 4 + 3, none⟩ = some (.slice z.eA z.en z.ec) := hat.cellK hlt default 3 _ (by rw [hz]; rfl)
      rw [hz] at hok
      have HKK : Hid (z.name = (l.getD k default).name) := hide hok.1
      have x0 : wr.cell? ⟨xb, 0, none⟩ = some (.string ⟨xn.toArray⟩) := HX.out.cell (X0.out.cell 0)
      have x0' : (wr.alloc (.cells #[.string ⟨z.name.toArray⟩, .int .i64 z.scale, .slice z.sA z.sn z.sc, .slice z.eA z.en z.ec] 53)).cell? ⟨xb, 0, none⟩ = some (.string ⟨xn.toArray⟩) := (Ext.alloc _ _).cell x0
      have i1 : (k : Int) < (n : Int) := by omega
      have i0 : (0 : Int) ≤ (k : Int) := by omega
      have E5 : Hid (Ext w0 (wr.alloc (.cells #[.string ⟨z.name.toArray⟩, .int .i64 z.scale, .slice z.sA z.sn z.sc, .slice z.eA z.en z.ec] 53))) := hide (Ext.trans HX.out (Ext.alloc _ _))
      by_cases heq : z.name = xn
      · have HE : Hid (R = 7) := hide (by rw [HVT2.out, if_pos (twice_yes (k := k) (by have := HLN.out; omega) (by rw [← HKK.out]; exact heq))])
        have dk : (z.name == xn) = true := by rw [heq]; simp
        clear hat hok hz EX heq
        go_wp2_with fail
        go_ret
        exact ⟨ret_int HE.out.symm, Ext.trans E0.out E5.out⟩
      · have dk : (z.name == xn) = false := by rw [beq_eq_false_iff_ne]; exact heq
        have HA2 : Hid (∀ j, j < k + 1 → (l.getD j default).name ≠ xn) := hide (fun j hj => by
          rcases Nat.lt_succ_iff_lt_or_eq.1 hj with h | h
          · exact HA.out j h
          · rw [h, ← HKK.out]; exact heq)
        clear hat hok hz EX heq
        go_wp2_with fail
        exact ⟨⟨k + 1, by omega, by go_num, HA2, E5⟩, by simp [intOf]; omega⟩
    · obtain rfl : k = n := by omega
      have HVT3 : Hid (R = if badSc xs = true then 1 else if smpF x.smp ≠ 0 then smpF x.smp else if 50 < en then 2 else edF xe) := hide (by rw [HVT2.out, if_neg (by rw [twice_no (fun j hj => HA.out j (by have := HLN.out; omega))]; simp)])
      obtain ⟨w2, hw2⟩ : ∃ w2, w2 = wr := ⟨_, rfl⟩
      subst hw2
      have XB := hide (X0.out.ext HX.out)
      have x1 : w2.cell? ⟨xb, 1, none⟩ = some (.int .i64 xs) := XB.out.cell 1
      have EW2 := hide (Ext.trans E0.out HX.out)
      clear hlt HA HVT2 HX X0
      cases hsc : badSc xs with
      | true =>
        have HE : Hid (R = 1) := hide (by rw [HVT3.out, if_pos hsc])
        rw [hsc] at HNS
        clear hsc
        go_wp2_with fail
        with_reducible refine (HNS.out _).mono ?_
        rintro e w' ⟨rfl, rfl⟩
        go_wp2_with fail
        go_ret
        exact ⟨ret_int HE.out.symm, EW2.out⟩
      | false =>
      have HVT4 : Hid (R = if smpF x.smp ≠ 0 then smpF x.smp else if 50 < en then 2 else edF xe) := hide (by rw [HVT3.out, if_neg (by simp [hsc])])
      rw [hsc] at HNS
      clear hsc HVT3
      go_wp2_with fail
      with_reducible refine (HNS.out _).mono ?_
      rintro e w' ⟨rfl, rfl⟩
      clear x1
      have x2 : w2.cell? ⟨xb, 2, none⟩ = some (.slice sA sn sc) := XB.out.cell 2
      generalize smpF x.smp = sf at *
      go_wp2_with fail
      with_reducible refine (HKS.out _ EW2.out).mono ?_
      rintro e w3 ⟨rfl, e3⟩
      have EW3 := hide (Ext.trans EW2.out e3)
      have XC := hide (XB.out.ext e3)
      clear e3 x2 XB HKS
      by_cases hsf : sf = 0
      rotate_left
      · have HE : Hid (R = sf) := hide (by rw [HVT4.out, if_pos hsf])
        have d0 : (sf != 0) = true := by simp [hsf]
        clear hsf
        go_wp2_with fail
        go_ret
        exact ⟨ret_int HE.out.symm, EW3.out⟩
      have HVT5 : Hid (R = if 50 < en then 2 else edF xe) := hide (by rw [HVT4.out, if_neg (by simp [hsf])])
      subst hsf
      have x3 : w3.cell? ⟨xb, 3, none⟩ = some (.slice eA en ec) := XC.out.cell 3
      clear HVT4
      by_cases h50 : 50 < en
      · have HE : Hid (R = 2) := hide (by rw [HVT5.out, if_pos h50])
        have g1 : (50 : Int) < (en : Int) := by omega
        clear h50
        go_wp2_with fail
        go_ret
        exact ⟨ret_int HE.out.symm, EW3.out⟩
      have HVT6 : Hid (R = edF xe) := hide (by rw [HVT5.out, if_neg h50])
      have g1 : ¬ (50 : Int) < (en : Int) := by omega
      have hen : en ≤ 50 := by omega
      clear h50 HVT5
      go_wp2_with fail
      clear g1 x3
      go_loopw [8, 43] (fun ra ri wr => ∃ k : Nat, k ≤ en ∧ ri = .int .i64 k ∧ ra = .int .i64 (sumE (xe.take k)) ∧ Hid (∀ j, j < k → badE (xe.getD j (0, 0)) = false) ∧ Hid (Ext w3 wr)) (fun _ ri _ => en - (intOf ri).toNat)
      case atStart => exact ⟨0, by omega, rfl, by simp [sumE], hide (fun j hj => absurd hj (Nat.not_lt_zero _)), hide (Ext.refl _)⟩
      case round =>
        obtain ⟨q, hq, rfl, rfl, HB, HY⟩ := hrel
        by_cases hql : q < en
        · obtain ⟨b2, o2, rfl, _⟩ := HS2.out.addr (by omega)
          have hat := HS2.out.ext (Ext.trans EW3.out HY.out)
          obtain ⟨a0, a1⟩ := hat.pair hql
          have hsu := sumE_take (l := xe) (k := q) (by have := HEL.out; omega)
          have HSU := hide hsu
          have hbd : 0 ≤ sumE (xe.take q) ∧ sumE (xe.take q) ≤ 1000000000000000 * (q : Int) := by
            have h1 : ∀ k, k < (xe.take q).length → badE ((xe.take q).getD k (0, 0)) = false := fun k hk => by
              have hkq : k < q := by rw [List.length_take] at hk; omega
              have := HB.out k hkq
              simp only [List.getD_eq_getElem?_getD, List.getElem?_take, hkq, if_true] at this ⊢
              exact this
            have h2 := sumE_bd h1 q (by rw [List.length_take]; have := HEL.out; omega)
            rwa [List.take_take, Nat.min_self] at h2
          have HBAD := hide (fun hb => edF_bad (l := xe) (k := q) (by have := HEL.out; omega) hb)
          have HNX : Hid (badE (xe.getD q (0, 0)) = false → ∀ j, j < q + 1 → badE (xe.getD j (0, 0)) = false) := hide (fun hb j hj => by
            rcases Nat.lt_succ_iff_lt_or_eq.1 hj with h | h
            · exact HB.out j h
            · rw [h]; exact hb)
          have HBV : Hid (badE (xe.getD q (0, 0)) = (decide ((xe.getD q (0, 0)).1 < 1 ∨ 1000000000000000 < (xe.getD q (0, 0)).1) || decide ((xe.getD q (0, 0)).2 < -1 ∨ 1000000000000000 < (xe.getD q (0, 0)).2))) := hide rfl
          generalize badE (xe.getD q (0, 0)) = bb at *
          generalize (xe.getD q (0, 0)).1 = p at *
          generalize (xe.getD q (0, 0)).2 = r at *
          generalize sumE (xe.take q) = S at *
          have j1 : (q : Int) < (en : Int) := by omega
          have j0 : (0 : Int) ≤ (q : Int) := by omega
          have E5 : Hid (Ext w3 (wr.alloc (.cells #[.int .i64 p, .int .i64 r] 95))) := hide (Ext.trans HY.out (Ext.alloc _ _))
          clear hat hsu
          by_cases hp : p < 1 ∨ 1000000000000000 < p
          · have HE : Hid (R = 1) := hide (by rw [HVT6.out, HBAD.out (by rw [HBV.out, decide_eq_true hp]; rfl)])
            have HO1 := hide (fun (W : World) => out_yes hp W)
            clear hp hbd
            go_wp2_with fail
            with_reducible refine (HO1.out _).mono ?_
            rintro e w' ⟨rfl, rfl⟩
            go_wp2_with fail
            go_ret
            exact ⟨ret_int HE.out.symm, Ext.trans EW3.out E5.out⟩
          have HO1 := hide (fun (W : World) => out_no (n := p) (lo := 1) (hi := 1000000000000000) (by omega) W)
          by_cases hr : r < -1 ∨ 1000000000000000 < r
          · have HE : Hid (R = 1) := hide (by rw [HVT6.out, HBAD.out (by rw [HBV.out, decide_eq_true hr, Bool.or_true])])
            have HO2 := hide (fun (W : World) => out_yes hr W)
            clear hp hr hbd
            go_wp2_with fail
            with_reducible refine (HO1.out _).mono ?_
            rintro e w' ⟨rfl, rfl⟩
            go_wp2_with fail
            with_reducible refine (HO2.out _).mono ?_
            rintro e w' ⟨rfl, rfl⟩
            go_wp2_with fail
            go_ret
            exact ⟨ret_int HE.out.symm, Ext.trans EW3.out E5.out⟩
          have HO2 := hide (fun (W : World) => out_no (n := r) (lo := -1) (hi := 1000000000000000) (by omega) W)
          have HB2 := hide (HNX.out (by rw [HBV.out, decide_eq_false hp, decide_eq_false hr]; rfl))
          have hp2 : 1 ≤ p ∧ p ≤ 1000000000000000 := by omega
          have j9 : IntKind.i64.wrap (S + p) = S + p := by rw [IntKind.wrap_i64]; omega
          have hsl : S ≤ 50000000000000000 := by omega
          have hs0 := hbd.1
          clear hp hr hbd HBAD HNX HBV
          go_wp2_with fail
          with_reducible refine (HO1.out _).mono ?_
          rintro e w' ⟨rfl, rfl⟩
          go_wp2_with fail
          with_reducible refine (HO2.out _).mono ?_
          rintro e w' ⟨rfl, rfl⟩
          go_wp2_with fail
          exact ⟨⟨q + 1, by omega, by go_num, int_val HSU.out.symm, HB2, E5⟩, by simp [intOf]; omega⟩
        · obtain rfl : q = en := by omega
          have HTK : Hid (xe.take q = xe) := hide (by rw [← HEL.out, List.take_length])
          have HE := hide (edF_good (l := xe) (fun k hk => HB.out k (by have := HEL.out; omega)))
          rw [← HTK.out] at HE
          have HE2 : Hid (R = if 1000000000000000 < sumE (xe.take q) then 1 else 0) := hide (by rw [HVT6.out, ← HE.out, HTK.out])
          clear HE HTK
          generalize sumE (xe.take q) = S at *
          have EWL := hide (Ext.trans EW3.out HY.out)
          by_cases hS : 1000000000000000 < S
          · have HE : Hid (R = 1) := hide (by rw [HE2.out, if_pos hS])
            clear hql
            go_wp2_with fail
            go_ret
            exact ⟨ret_int HE.out.symm, EWL.out⟩
          · have HE : Hid (R = 0) := hide (by rw [HE2.out, if_neg hS])
            clear hql
            go_wp2_with fail
            go_ret
            exact ⟨ret_int HE.out.symm, EWL.out⟩
def nmF (l : List TrkT) : Prop := ∀ i, i < l.length → (l.getD i default).name.length ≤ maxLen
set_option linter.unusedVariables false in
set_option maxRecDepth 100000 in
set_option maxHeartbeats 8000000 in
theorem checkFilm_any {sc : Int} {A : Option Addr} {n c : Nat} {hs : List TrkH} {l : List TrkT} {w : World} (h : TksAt w A n c hs l) (hn : nmF l) :
    Calls Try.prog 14 #[.agg #[.int .i64 sc, .slice A n c]] w fun e w' => e = .returned (.int .i64 (filF sc l)) ∧ Ext w w' := by
  have HVT : Hid (filF sc l = if badSc sc = true then 1 else if 8 < n then 2 else firstF (fun i => trF (l.getD i default) (l.take i)) n) := hide (by unfold filF; rw [h.len])
  have HNS := hide (fun (W : World) => noScale_any sc W)
  have HTF : Hid (∀ (W : World) (i : Nat), Ext w W → i < n → Calls Try.prog 40 #[.agg #[.string ⟨(l.getD i default).name.toArray⟩, .int .i64 (l.getD i default).scale, .slice (hs.getD i default).sA (hs.getD i default).sn (hs.getD i default).sc, .slice (hs.getD i default).eA (hs.getD i default).en (hs.getD i default).ec], .slice A i c] W fun e w' => e = .returned (.int .i64 (trF (l.getD i default) (l.take i))) ∧ Ext W w') :=
    hide (fun W i hW hi => trackFault_any ((h.ok i hi).ext hW) ((h.ext hW).upto (by omega)) (hn i (by rw [h.len]; exact hi)))
  have HAT := hide h.at_
  have HOK := hide h.ok
  have hnb := h.at_.bound
  have hle := h.at_.le
  have X0 := hide (Blk.new w 24 #[.int .i64 sc, .slice A n c])
  have E0 := hide (Ext.alloc w (.cells #[.int .i64 sc, .slice A n c] 24))
  clear h hn
  generalize filF sc l = R at *
  go_enter Try.func14, Try.ntmps14
  go_upto_region 1 with (fail)
  refine gen_wpC fun w0 h0 => ?_
  rw [← h0] at X0 E0
  obtain ⟨xb, hxb⟩ : ∃ xb, xb = w.heap.size := ⟨_, rfl⟩
  rw [← hxb] at X0 ⊢
  clear h0 hxb
  have x0 : w0.cell? ⟨xb, 0, none⟩ = some (.int .i64 sc) := X0.out.cell 0
  have x1 : w0.cell? ⟨xb, 1, none⟩ = some (.slice A n c) := X0.out.cell 1
  cases hsc : badSc sc with
  | true =>
    have HE : Hid (R = 1) := hide (by rw [HVT.out, if_pos hsc])
    rw [hsc] at HNS
    clear hsc
    go_wp2_with fail
    with_reducible refine (HNS.out _).mono ?_
    rintro e w' ⟨rfl, rfl⟩
    go_wp2_with fail
    go_ret
    exact ⟨ret_int HE.out.symm, E0.out⟩
  | false =>
  have HVT2 : Hid (R = if 8 < n then 2 else firstF (fun i => trF (l.getD i default) (l.take i)) n) := hide (by rw [HVT.out, if_neg (by simp [hsc])])
  rw [hsc] at HNS
  clear hsc HVT
  by_cases h8 : 8 < n
  · have HE : Hid (R = 2) := hide (by rw [HVT2.out, if_pos h8])
    have g1 : (8 : Int) < (n : Int) := by omega
    clear h8
    go_wp2_with fail
    with_reducible refine (HNS.out _).mono ?_
    rintro e w' ⟨rfl, rfl⟩
    go_wp2_with fail
    go_ret
    exact ⟨ret_int HE.out.symm, E0.out⟩
  have HVT3 : Hid (R = firstF (fun i => trF (l.getD i default) (l.take i)) n) := hide (by rw [HVT2.out, if_neg h8])
  have g1 : ¬ (8 : Int) < (n : Int) := by omega
  clear HVT2 h8
  go_wp2_with fail
  with_reducible refine (HNS.out _).mono ?_
  rintro e w' ⟨rfl, rfl⟩
  go_wp2_with fail
  clear x0 HNS g1
  go_loopw [18] (fun ri wr => ∃ k : Nat, k ≤ n ∧ ri = .int .i64 k ∧ Hid (∀ j, j < k → trF (l.getD j default) (l.take j) = 0) ∧ Hid (Ext w0 wr)) (fun ri _ => n - (intOf ri).toNat)
  case atStart => exact ⟨0, by omega, rfl, hide (fun j hj => absurd hj (Nat.not_lt_zero _)), hide (Ext.refl _)⟩
  case round =>
    clear x1
    obtain ⟨k, hk, rfl, HA, HX⟩ := hrel
    by_cases hlt : k < n
    · obtain ⟨b, o, rfl, _⟩ := HAT.out.addr (by omega)
      have EX := Ext.trans E0.out HX.out
      have hat := HAT.out.ext EX
      have hok := HOK.out k hlt
      have HTK := hide (fun (W : World) (hW : Ext w W) => HTF.out W k hW hlt)
      have HFI : Hid (trF (l.getD k default) (l.take k) ≠ 0 → firstF (fun i => trF (l.getD i default) (l.take i)) n = trF (l.getD k default) (l.take k)) := hide (fun hb => firstF_at (g := fun i => trF (l.getD i default) (l.take i)) (i := k) (fun j hj => HA.out j hj) hb hlt)
      have HNX : Hid (trF (l.getD k default) (l.take k) = 0 → ∀ j, j < k + 1 → trF (l.getD j default) (l.take j) = 0) := hide (fun hb j hj => by
        rcases Nat.lt_succ_iff_lt_or_eq.1 hj with h | h
        · exact HA.out j h
        · rw [h]; exact hb)
      obtain ⟨z, hz⟩ : ∃ z, hs.getD k default = z := ⟨_, rfl⟩
      rw [hz] at hok HTK
      have a0 : wr.cell? ⟨b, o + k * 4, none⟩ = some (.string ⟨z.name.toArray⟩) := hat.cellK hlt default 0 _ (by rw [hz]; rfl)
      have a1 : wr.cell? ⟨b, o + k * 4 + 1, none⟩ = some (.int .i64 z.scale) := hat.cellK hlt default 1 _ (by rw [hz]; rfl)
      have a2 : wr.cell? ⟨b, o + k * 4 + 2, none⟩ = some (.slice z.sA z.sn z.sc) := hat.cellK hlt default 2 _ (by rw [hz]; rfl)
      have a3 : wr.cell? ⟨b, o + k * 4 + 3, none⟩ = some (.slice z.eA z.en z.ec) := hat.cellK hlt default 3 _ (by rw [hz]; rfl)
      rw [hok.1] at a0
      rw [hok.2.1] at a1
      generalize trF (l.getD k default) (l.take k) = F at *
      generalize (l.getD k default).name = xn at *
      generalize (l.getD k default).scale = xs at *
      have x1 : wr.cell? ⟨xb, 1, none⟩ = some (.slice (some ⟨b, o, none⟩) n c) := HX.out.cell (X0.out.cell 1)
      have i1 : (k : Int) < (n : Int) := by omega
      have i0 : (0 : Int) ≤ (k : Int) := by omega
      clear hat hok hz EX
      go_upto_region 8 with (fail)
      refine gen_wpC fun w5 h5 => ?_
      obtain ⟨tb, htb⟩ : ∃ tb, tb = wr.heap.size := ⟨_, rfl⟩
      rw [← htb]
      have E5 : Hid (Ext w0 w5) := hide (by rw [h5]; exact Ext.trans HX.out (Ext.alloc _ _))
      have X5 : Hid (Blk w5 tb 53 #[.string ⟨xn.toArray⟩, .int .i64 xs, .slice z.sA z.sn z.sc, .slice z.eA z.en z.ec]) := hide (by rw [h5, htb]; exact Blk.new _ _ _)
      clear h5 htb a0 a1 a2 a3 x1
      have x1 : w5.cell? ⟨xb, 1, none⟩ = some (.slice (some ⟨b, o, none⟩) n c) := E5.out.cell (X0.out.cell 1)
      have y0 : w5.cell? ⟨tb, 0, none⟩ = some (.string ⟨xn.toArray⟩) := X5.out.cell 0
      have y1 : w5.cell? ⟨tb, 1, none⟩ = some (.int .i64 xs) := X5.out.cell 1
      have y2 : w5.cell? ⟨tb, 2, none⟩ = some (.slice z.sA z.sn z.sc) := X5.out.cell 2
      have y3 : w5.cell? ⟨tb, 3, none⟩ = some (.slice z.eA z.en z.ec) := X5.out.cell 3
      have i9 : (k : Int) ≤ (c : Int) := by omega
      have E5d := hide (Ext.trans E0.out (Ext.trans E5.out (Ext.drew w5)))
      go_still_tail 5, (by kernel_rfl)
      change wpList _ _ _ _ _ w5.drew
      go_wp2_with fail
      with_reducible refine (HTK.out _ E5d.out).mono ?_
      rintro e w6 ⟨rfl, e6⟩
      have E6 := hide (Ext.trans (Ext.trans E5.out (Ext.drew w5)) e6)
      clear e6 x1 y0 y1 y2 y3
      by_cases hF : F = 0
      · have HA2 := hide (HNX.out hF)
        subst hF
        go_wp2_with fail
        exact ⟨⟨k + 1, by omega, by go_num, HA2, E6⟩, by simp [intOf]; omega⟩
      · have HE : Hid (R = F) := hide (by rw [HVT3.out]; exact HFI.out hF)
        have d0 : (F != 0) = true := by simp [hF]
        clear hF
        go_wp2_with fail
        go_ret
        exact ⟨ret_int HE.out.symm, Ext.trans E0.out E6.out⟩
    · obtain rfl : k = n := by omega
      have HE : Hid (R = 0) := hide (by rw [HVT3.out]; exact firstF_zero HA.out)
      clear hlt
      go_wp2_with fail
      go_ret
      exact ⟨ret_int HE.out.symm, Ext.trans E0.out HX.out⟩
theorem strCells_mk (k : List UInt8) : Go.Lib.strCells ⟨k.toArray⟩ = k.flatMap e8 := by
  rw [flat8]; simp [Go.Lib.strCells]
theorem step_append_str {P : Program} {w : World} {ops : Array Oper} {o : Oper} {a : Act} {K : Act → World → Prop} {Q : Exit → Act → World → Prop} {E : Prop} (hgd : o.guard = none) (sl x : Operand) (t u : TypeId)
    (ho : o.op = .call { callee := .builtin .append, args := #[sl, x], argTypes := #[t, u] })
    (base : Nat) (e : TypeId) (i : TypeInfo) (ht : P.underlying t = some (.slice e)) (hu : P.underlying u = some .string) (hi : P.info? e = some i) (hz : i.zero = some (.int .u8 0))
    (hsize : i.size = 1) (hby : i.bytes = 1)
    (v : Value) (xs : List UInt8) (hs : a.eval sl = v) (hown : Own w base e 1 e8 v xs) (k : List UInt8) (hx : a.eval x = .string ⟨k.toArray⟩)
    (h63 : xs.length + k.length ≤ maxLen) (hbytes : xs.length + k.length ≤ 140737488355328) (hbase : base ≤ w.heap.size)
    (h : ∀ v' w', Own w' base e 1 e8 v' (xs ++ k) → w.grownBy w' v.ownBlock → (v'.ownBlock = v.ownBlock ∨ ∃ g, v'.ownBlock = some g ∧ w.heap.size ≤ g) → K (a.put o.dst v') w') :
    if Region.wanted o (yielded ops a.tmps) = true then Oper.wp P o a w K Q else E := by
  have hw : Region.wanted o (yielded ops a.tmps) = true := by simp [Region.wanted, hgd]
  rw [if_pos hw]
  have hsz : (⟨k.toArray⟩ : ByteArray).size = k.length := by show k.toArray.size = _; simp
  obtain ⟨v', w', hr, h2, h3, h4⟩ := Go.Lib.run_append_own_string (P := P) (w := w) base t u o.type e i ht hu hi hz hsize hby v xs.length _ hown ⟨k.toArray⟩ (by rw [hsz]; exact h63) (by rw [hsz]; exact hbytes) hbase
  unfold Oper.wp execOp
  simp only [ho, resolve, invoke, builtin, Sem.run_bind, Sem.run_pure, Result.andThen_ok, List.map_toArray, List.map_cons, List.map_nil, hs, hx, hr]
  refine h v' w' ?_ h3 ?_
  · unfold Own
    rw [List.length_append, List.flatMap_append, ← strCells_mk k, ← hsz]
    exact h2
  · have hu' : w.ownsRow base e 1 v xs.length (xs.flatMap e8) := by unfold Own at hown; exact hown
    rcases hu'.2 with ⟨rfl, hn⟩ | ⟨g, cap, cur, rfl, hbg, hg, hnc, hcm, hcs, htake⟩
    · have hx0 : xs = [] := List.eq_nil_of_length_eq_zero hn
      subst hx0
      obtain ⟨v2, w2, hr2, k2, _, _⟩ := Go.Lib.run_append_own_string (P := P) (w := w) w.heap.size t u o.type e i ht hu hi hz hsize hby (.slice none 0 0) 0 _ (World.ownsRow_nil w w.heap.size e 1) ⟨k.toArray⟩ (by rw [hsz]; simpa using h63) (by rw [hsz]; simpa using hbytes) (Nat.le_refl _)
      rw [hr] at hr2
      injection hr2 with e1 e2
      subst e1
      rcases k2.2 with ⟨rfl, _⟩ | ⟨g, cap, cur, rfl, hbg, _⟩
      · exact .inl rfl
      · exact .inr ⟨g, rfl, hbg⟩
    · have hxl : (xs.flatMap e8).length = xs.length := by rw [flat8]; simp
      by_cases hroom : xs.length + (⟨k.toArray⟩ : ByteArray).size ≤ cap
      · have hr2 := Go.Lib.run_append_room_string (P := P) w t u o.type e i ht hu hi hsize g xs.length cap cur hg ⟨k.toArray⟩ hroom (by rw [hsz]; simp only [maxLen] at h63; omega)
        rw [hr] at hr2
        injection hr2 with e1 e2
        subst e1
        exact .inl rfl
      · have holds : ∀ j u, (xs.flatMap e8)[j]? = some u → w.cell? ((⟨g, 0, none⟩ : Addr).add j) = some u := hu'.cells (g := g) rfl
        have hr2 := Go.Lib.run_append_grow_string (P := P) w t u o.type e i (.int .u8 0) ht hu hi hz ⟨g, 0, none⟩ xs.length cap _ (by rw [hsize]; simpa using hxl) holds ⟨k.toArray⟩ (by omega) (by rw [hsz]; simp only [maxLen] at h63; omega) (by rw [hby]; exact growslice_fits (by rw [hsz]; omega) (by rw [hsz]; omega))
        rw [hr] at hr2
        injection hr2 with e1 e2
        subst e1
        exact .inr ⟨_, rfl, Nat.le_refl _⟩
theorem bytT_eq (x : BoxT) : bytT x = headB x.kind x.form (sizeT x) ++ x.data ++ bytL x.kids := by cases x; rw [bytT, sizeT]; rfl
end Go.Proofs.Ytlonhkjplijlcaa
