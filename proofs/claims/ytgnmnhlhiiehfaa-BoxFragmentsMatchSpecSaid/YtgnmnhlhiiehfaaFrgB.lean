/- Walk: Joined (program). Conditions as stated. -/
import Derived.Test.YtgnmnhlhiiehfaaFrgA
namespace Go.Proofs.Ytgnmnhlhiiehfaa
open Go.RowKit
/-- The samples of fragments. -/
def flS (L : List (Int × List Smp)) : List Smp := (L.map (·.2)).flatten
theorem flS_succ {L : List (Int × List Smp)} {k : Nat} (hk : k < L.length) : flS (L.take (k + 1)) = flS (L.take k) ++ (L.getD k (0, [])).2 := by
  unfold flS
  rw [List.take_succ_eq_append_getElem hk, List.map_append, List.flatten_append, List.getD_eq_getElem?_getD, List.getElem?_eq_getElem hk]
  simp
theorem flS_le {L : List (Int × List Smp)} (k : Nat) : (flS (L.take k)).length ≤ (flS L).length := by
  have h : flS L = flS (L.take k) ++ flS (L.drop k) := by unfold flS; rw [← List.flatten_append, ← List.map_append, List.take_append_drop]
  rw [h, List.length_append]; omega
set_option linter.unusedVariables false in
set_option maxRecDepth 100000 in
set_option maxHeartbeats 8000000 in
theorem keyJoined_ok {A : Option Addr} {n c : Nat} {G : Nat → Prop} {L : List (Int × List Smp)} {w : World} (h : FrsAt w G A n c L) (h5 : L.length ≤ 5000) (hN : ∀ i, i < L.length → (L.getD i (0, [])).1 = (i : Int) + 1)
    (hS : ∀ i, i < L.length → smpF (L.getD i (0, [])).2 = 0) (hF : smpF (flS L) = 0) :
    Calls Try.prog 14 #[.slice A n c] w fun e w' => Ext w w' ∧ ∃ N c2, e = .returned (.tuple #[.slice N (flS L).length c2, .int .i64 0]) ∧ Own w' w.heap.size 40 5 eSm (.slice N (flS L).length c2) (flS L) := by
  obtain ⟨hs, h1, h2, h3, h4⟩ := h
  have hn : hs.length = n := h1.len
  have hLn : L.length = n := h3.symm.trans hn
  have hmx : (flS L).length ≤ 5000 := (smpF_zero hF).1
  have H := hide h1
  have HL := hide hLn
  have HEL : Hid (∀ i, i < n → FrOk w G (hs.getD i default) (L.getD i (0, []))) := hide (fun i hi => by
    have hi1 : i < hs.length := by omega
    have hi2 : i < L.length := by omega
    rw [List.getD_eq_getElem?_getD, List.getD_eq_getElem?_getD, List.getElem?_eq_getElem hi1, List.getElem?_eq_getElem hi2]
    exact h4 i _ _ (List.getElem?_eq_getElem hi1) (List.getElem?_eq_getElem hi2))
  have HN := hide hN; have HS := hide hS; have HF := hide hF
  have HMX := hide hmx
  have hn5 : n ≤ 5000 := by omega
  have HMK : Hid (∀ k, (flS (L.take k)).length ≤ 5000) := hide (fun k => Nat.le_trans (flS_le k) HMX.out)
  have HSU : Hid (∀ k, k < n → flS (L.take (k + 1)) = flS (L.take k) ++ (L.getD k (0, [])).2) := hide (fun k hk => flS_succ (by have := HL.out; omega))
  obtain ⟨i0, hi0, hz0, hz1, hz2⟩ := info_parts Try.info40
  clear h1 h2 h3 h4 hn hLn h5 hN hS hF hmx
  go_enter Try.func14, Try.ntmps14
  go_wp2_with fail
  go_loopw [14, 4] (fun ri rv wr => ∃ k : Nat, k ≤ n ∧ ri = .int .i64 k ∧ Hid (Own wr w.heap.size 40 5 eSm rv (flS (L.take k)) ∧ Ext w wr)) (fun ri _ _ => n - (intOf ri).toNat)
  case atStart => exact ⟨0, by omega, rfl, hide ⟨Own.nil _ _ _ _ _, Ext.refl _⟩⟩
  case round =>
    obtain ⟨k, hk, rfl, HI⟩ := hrel
    obtain ⟨vA, vc, hv, _⟩ := HI.out.1.at_ len_eSm
    have hmk := HMK.out k
    have HX := hide HI.out.2
    have HOW := hide HI.out.1
    by_cases hlt : k < n
    · obtain ⟨b, off, rfl, _⟩ := H.out.addr (by omega)
      have hat := H.out.ext HX.out
      have a0 := hat.cellK hlt default 0 _ rfl
      have a1 := hat.cellK hlt default 1 _ rfl
      obtain ⟨hnum, hsat, _⟩ := HEL.out k hlt
      rw [Nat.add_zero, hnum, HN.out k (by have := HL.out; omega)] at a0
      have hp0 : 0 < k → wr.cell? ⟨b, off + (k - 1) * 2, none⟩ = some (.int .i64 (k : Int)) := fun h0 => by
        have := hat.cellK (k := k - 1) (by omega) default 0 _ rfl
        rw [Nat.add_zero, (HEL.out (k - 1) (by omega)).1, HN.out (k - 1) (by have := HL.out; omega)] at this
        rw [this]; congr 2; omega
      have hsu := HSU.out k hlt
      have hmk1 := HMK.out (k + 1)
      have hs0 := HS.out k (by have := HL.out; omega)
      have hsl := hsat.len
      rw [hsu, List.length_append, hsl] at hmk1
      generalize (L.getD k (0, [])).2 = xs at *
      generalize (hs.getD k default).sA = sA at *
      generalize (hs.getD k default).sn = sn at *
      generalize (hs.getD k default).sc = sc at *
      have HQ := hide hsu
      clear hsu
      generalize flS (L.take k) = f0 at *
      subst hv
      have HSA := hide hsat
      have HSL := hide hsl
      have HC := hide (fun (W : World) (hW : Ext w W) => by have := keySamples_any (hsat.ext hW); rwa [hs0] at this)
      have M1 : Hid (f0.length + sn ≤ maxLen) := hide (by unfold maxLen; omega)
      have M2 : Hid ((f0.length + sn) * 40 ≤ 140737488355328) := hide (by omega)
      have hsn := hsat.max
      have i0' : (k : Int) < (n : Int) := by omega
      have hf5 : (f0.length : Int) ≤ 5000 := by omega
      clear hat hnum hsat hs0 hsl hmk1 hmk
      have HX1 : Hid (Ext w (wr.alloc (.cells #[.int .i64 ((k : Int) + 1), .slice sA sn sc] 35))) := hide (Ext.trans HX.out (Ext.alloc _ _))
      have hb1 := Blk.new wr 35 #[.int .i64 ((k : Int) + 1), .slice sA sn sc]
      rcases Nat.eq_zero_or_pos k with hk0 | hk0
      · have d0 : decide ((0 : Int) < (k : Int)) = false := by simp; omega
        have d1 : decide (0 < k) = false := by simp; omega
        clear hp0 hk0
        go_wp2_with (first | ((go_at_call 31; with_reducible refine (out_no ⟨by omega, by omega⟩ _).mono ?_); rintro e w' ⟨rfl, rfl⟩))
        with_reducible refine (HC.out _ HX1.out).mono ?_
        rintro e w4 ⟨rfl, e4⟩
        have b4 := hb1.ext e4
        have c40 : w4.cell? ⟨wr.heap.size, 0, none⟩ = some (.int .i64 ((k : Int) + 1)) := b4.cell 0
        have c41 : w4.cell? ⟨wr.heap.size, 1, none⟩ = some (.slice sA sn sc) := b4.cell 1
        have HX4 : Hid (Ext w w4) := hide (Ext.trans HX1.out e4)
        have HO4 : Hid (Own w4 w.heap.size 40 5 eSm (.slice vA f0.length vc) f0) := hide (HOW.out.ext (Ext.trans (Ext.alloc _ _) e4))
        have HS4 : Hid (At w4 5 eSm sA sn sc xs) := hide (HSA.out.ext HX4.out)
        clear b4 e4 hb1
        go_wp2_with fail
        go_quiet (fail)
        go_wp2_with (at_builtin; refine wpList_append_at _ rfl (.tmp 45) (.tmp 47) 30 rfl w.heap.size 40 i0 _ 40 Try.underlying30 hi0 hz0 hz1 hz2 rfl (by omega) len_eSm one_eSm (.slice vA f0.length vc) f0 (by rfl) (HO4.out.ext (below_drewN (Ext.refl _) _)) sA sn sc xs (by rfl) (HS4.out.ext (below_drewN (Ext.refl _) _)) M1.out M2.out (below_drewN HX4.out _).size ?_; intro v7 w7 o7 g7 _ r7; have HO7 := hide o7; have HE7 : Hid (Ext w w7) := hide (Own.below (w0 := w) (HO4.out.ext (below_drewN (Ext.refl _) _)) (below_drewN HX4.out _) g7 (Nat.le_refl _)); clear o7 g7 r7)
        exact ⟨⟨k + 1, by omega, by go_num, hide ⟨by rw [HQ.out]; exact HO7.out, HE7.out⟩⟩, by simp [intOf]; omega⟩
      · have d0 : decide ((0 : Int) < (k : Int)) = true := by simp; omega
        have i2 : IntKind.i64.wrap ((k : Int) - 1) = (k : Int) - 1 := by rw [IntKind.wrap_i64]; omega
        have i3 : ((k : Int) - 1).toNat = k - 1 := by omega
        have i4 : 0 ≤ (k : Int) - 1 := by omega
        have i5 : (k : Int) - 1 < (n : Int) := by omega
        have i6 : 1 ≤ (k : Int) := by omega
        have i7 : (k : Int) ≤ (n : Int) := by omega
        have i8 : IntKind.i64.wrap ((k : Int) + 1) = (k : Int) + 1 := by rw [IntKind.wrap_i64]; omega
        have d2 : ((k : Int) + 1 != (k : Int) + 1) = false := by simp
        have hq := hp0 hk0
        clear hp0
        go_wp2_with (first | ((go_at_call 31; with_reducible refine (out_no ⟨by omega, by omega⟩ _).mono ?_); rintro e w' ⟨rfl, rfl⟩))
        with_reducible refine (HC.out _ HX1.out).mono ?_
        rintro e w4 ⟨rfl, e4⟩
        have b4 := hb1.ext e4
        have c40 : w4.cell? ⟨wr.heap.size, 0, none⟩ = some (.int .i64 ((k : Int) + 1)) := b4.cell 0
        have c41 : w4.cell? ⟨wr.heap.size, 1, none⟩ = some (.slice sA sn sc) := b4.cell 1
        have HX4 : Hid (Ext w w4) := hide (Ext.trans HX1.out e4)
        have HO4 : Hid (Own w4 w.heap.size 40 5 eSm (.slice vA f0.length vc) f0) := hide (HOW.out.ext (Ext.trans (Ext.alloc _ _) e4))
        have HS4 : Hid (At w4 5 eSm sA sn sc xs) := hide (HSA.out.ext HX4.out)
        have hq4 := e4.cell ((Ext.alloc wr (.cells #[.int .i64 ((k : Int) + 1), .slice sA sn sc] 35)).cell hq)
        clear hq
        clear b4 e4 hb1
        go_wp2_with fail
        go_quiet (fail)
        go_wp2_with (at_builtin; refine wpList_append_at _ rfl (.tmp 45) (.tmp 47) 30 rfl w.heap.size 40 i0 _ 40 Try.underlying30 hi0 hz0 hz1 hz2 rfl (by omega) len_eSm one_eSm (.slice vA f0.length vc) f0 (by rfl) (HO4.out.ext (below_drewN (Ext.refl _) _)) sA sn sc xs (by rfl) (HS4.out.ext (below_drewN (Ext.refl _) _)) M1.out M2.out (below_drewN HX4.out _).size ?_; intro v7 w7 o7 g7 _ r7; have HO7 := hide o7; have HE7 : Hid (Ext w w7) := hide (Own.below (w0 := w) (HO4.out.ext (below_drewN (Ext.refl _) _)) (below_drewN HX4.out _) g7 (Nat.le_refl _)); clear o7 g7 r7)
        exact ⟨⟨k + 1, by omega, by go_num, hide ⟨by rw [HQ.out]; exact HO7.out, HE7.out⟩⟩, by simp [intOf]; omega⟩
    obtain rfl : n = k := by omega
    have hall : L.take n = L := List.take_of_length_le (by have := HL.out; omega)
    have HF2 := HF.out
    rw [hall] at hv HI HOW hmk
    generalize hf0 : flS L = f0 at *
    subst hv
    have HF0 := hide hf0
    clear hf0
    have HS4 := hide (HOW.out.atS len_eSm)
    have HC := hide (fun (W : World) (hW : Ext wr W) => by have := keySamples_any (HS4.out.ext hW); rwa [HF2] at this)
    clear HF2 hall
    have i0' : ¬ (n : Int) < (n : Int) := by omega
    go_wp2_with fail
    with_reducible refine (HC.out _ (by first | exact Ext.refl _ | exact below_drewN (Ext.refl _) _)).mono ?_
    rintro e w4 ⟨rfl, e4⟩
    have hfin : Hid (Ext w w4 ∧ Own w4 w.heap.size 40 5 eSm (.slice vA f0.length vc) f0) := hide ⟨Ext.trans HX.out e4, HOW.out.ext e4⟩
    clear e4
    go_wp2_with fail
    refine bodyPost_ret (v := .tuple #[.slice vA f0.length vc, .int .i64 0]) (by simp [results, Try.results14, go_sem]) rfl (by rw [HF0.out]; exact ⟨hfin.out.1, vA, vc, rfl, hfin.out.2⟩)
end Go.Proofs.Ytgnmnhlhiiehfaa
