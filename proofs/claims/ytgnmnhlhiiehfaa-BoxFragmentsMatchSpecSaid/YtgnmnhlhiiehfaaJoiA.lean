/- Walk: Joined (program). Conditions as stated. -/
import Derived.Test.YtgnmnhlhiiehfaaJoiP
import Derived.Test.YtgnmnhlhiiehfaaSmpB
namespace Go.Proofs.Ytgnmnhlhiiehfaa
open Go.RowKit
set_option linter.unusedVariables false in
set_option maxRecDepth 100000 in
set_option maxHeartbeats 8000000 in
theorem keyJoined_any {A : Option Addr} {n c : Nat} {G : Nat → Prop} {L : List (Int × List Smp)} {w : World} (h : FrsAt w G A n c L) :
    Calls Try.prog 14 #[.slice A n c] w (Gives 5 eSm w (joinL L) (joinF L)) := by
  obtain ⟨hs, h1, h2, h3, h4⟩ := h
  have hn : hs.length = n := h1.len
  have hLn : L.length = n := h3.symm.trans hn
  have hbd := h1.bound
  by_cases hbig : 5000 < n
  · have HF : Hid (joinF L = 2) := hide (by unfold joinF; rw [if_pos (by omega)])
    have HLL : Hid (joinL L = []) := hide (by unfold joinL; rw [if_neg (by rw [HF.out]; omega)])
    clear h1 h2 h3 h4 hn hLn
    go_enter Try.func14, Try.ntmps14
    go_wp2_with fail
    refine bodyPost_ret (v := .tuple #[.slice none 0 0, .int .i64 2]) (by simp [results, Try.results14, go_sem]) rfl (gives_nil' HF.out HLL.out (Ext.refl _))
  have hn5 : n ≤ 5000 := by omega
  have H := hide h1
  have HL := hide hLn
  have HEL : Hid (∀ i, i < n → FrOk w G (hs.getD i default) (L.getD i (0, []))) := hide (fun i hi => by
    have hi1 : i < hs.length := by omega
    have hi2 : i < L.length := by omega
    rw [List.getD_eq_getElem?_getD, List.getD_eq_getElem?_getD, List.getElem?_eq_getElem hi1, List.getElem?_eq_getElem hi2]
    exact h4 i _ _ (List.getElem?_eq_getElem hi1) (List.getElem?_eq_getElem hi2))
  have HBAD := hide (fun (i : Nat) (hi : i < n) (ha : ∀ j, j < i → jEl L j = 0) (hb : jEl L i ≠ 0) => (⟨joinF_el (by omega) (by omega) ha hb, by unfold joinL; rw [if_neg (by rw [joinF_el (by omega) (by omega) ha hb]; exact hb)]⟩ : joinF L = jEl L i ∧ joinL L = []))
  have HALL := hide (fun (ha : ∀ j, j < n → jEl L j = 0) => joinF_all (L := L) (by omega) (fun j hj => ha j (by omega)))
  have HSU : Hid (∀ k, k < n → flS (L.take (k + 1)) = flS (L.take k) ++ (L.getD k (0, [])).2) := hide (fun k hk => flS_succ (by have := HL.out; omega))
  have HLE := hide (fun (k : Nat) (hk : k ≤ n) (ha : ∀ j, j < k → jEl L j = 0) => capL_le (L := L) (k := k) ha k (Nat.le_refl _))
  obtain ⟨i0, hi0, hz0, hz1, hz2⟩ := info_parts Try.info40
  clear h1 h2 h3 h4 hn hLn hbig
  go_enter Try.func14, Try.ntmps14
  go_wp2_with fail
  go_loopw [14, 4] (fun ri rv wr => ∃ k : Nat, k ≤ n ∧ ri = .int .i64 k ∧ Hid (∀ j, j < k → jEl L j = 0) ∧ Hid (Own wr w.heap.size 40 5 eSm rv (capL L k) ∧ Ext w wr)) (fun ri _ _ => n - (intOf ri).toNat)
  case atStart => exact ⟨0, by omega, rfl, hide (fun j hj => by omega), hide ⟨Own.nil _ _ _ _ _, Ext.refl _⟩⟩
  case round =>
    obtain ⟨k, hk, rfl, HA, HI⟩ := hrel
    obtain ⟨vA, vc, hv, _⟩ := HI.out.1.at_ len_eSm
    have hmk := HLE.out k hk HA.out
    have HX := hide HI.out.2
    have HOW := hide HI.out.1
    by_cases hlt : k < n
    · obtain ⟨b, off, rfl, _⟩ := H.out.addr (by omega)
      have HCELL := hide (fun (W : World) (hW : Ext w W) => (⟨by have := (H.out.ext hW).cellK hlt default 0 _ rfl; rwa [Nat.add_zero, (HEL.out k hlt).1] at this, (H.out.ext hW).cellK hlt default 1 _ rfl⟩ : W.cell? ⟨b, off + k * 2, none⟩ = some (.int .i64 (L.getD k (0, [])).1) ∧ W.cell? ⟨b, off + k * 2 + 1, none⟩ = some (.slice (hs.getD k default).sA (hs.getD k default).sn (hs.getD k default).sc)))
      have HPRE := hide (fun (W : World) (hW : Ext w W) (h0 : 0 < k) => (by
        have := (H.out.ext hW).cellK (k := k - 1) (by omega) default 0 _ rfl
        rwa [Nat.add_zero, (HEL.out (k - 1) (by omega)).1] at this : W.cell? ⟨b, off + (k - 1) * 2, none⟩ = some (.int .i64 (L.getD (k - 1) (0, [])).1)))
      have HSAT := hide (HEL.out k hlt).2.1
      have hbad := HBAD.out k hlt HA.out
      have hel : jEl L k = if fragF (L.getD k (0, [])).1 (L.getD k (0, [])).2 ≠ 0 then fragF (L.getD k (0, [])).1 (L.getD k (0, [])).2 else if 0 < k ∧ (L.getD k (0, [])).1 ≠ (L.getD (k - 1) (0, [])).1 + 1 then 8 else 0 := rfl
      have HGO : Hid (jEl L k = 0 → ∀ j, j < k + 1 → jEl L j = 0) := hide (fun h0 j hj => by
        rcases Nat.lt_succ_iff_lt_or_eq.1 hj with h | h
        · exact HA.out j h
        · rw [h]; exact h0)
      have hprev : 0 < k → 0 ≤ (L.getD (k - 1) (0, [])).1 ∧ (L.getD (k - 1) (0, [])).1 ≤ 4294967295 := fun h0 => (fragF_zero (jEl_zero (HA.out (k - 1) (by omega))).1).1
      have HSUK := hide (show capL L (k + 1) = if (capL L k).length ≤ 5000 then capL L k ++ (L.getD k (0, [])).2 else capL L k from rfl)
      have HFF : Hid (fragF (L.getD k (0, [])).1 (L.getD k (0, [])).2 = if (L.getD k (0, [])).1 < 0 ∨ 4294967295 < (L.getD k (0, [])).1 then 1 else smpF (L.getD k (0, [])).2) := hide rfl
      generalize jEl L k = je at *
      generalize fragF (L.getD k (0, [])).1 (L.getD k (0, [])).2 = ff at *
      generalize (L.getD k (0, [])).1 = q at *
      generalize (L.getD (k - 1) (0, [])).1 = p at *
      generalize (L.getD k (0, [])).2 = xs at *
      generalize (hs.getD k default).sA = sA at *
      generalize (hs.getD k default).sn = sn at *
      generalize (hs.getD k default).sc = sc at *
      generalize capL L k = f0 at *
      subst hv
      have hsn := HSAT.out.max
      have i0' : (k : Int) < (n : Int) := by omega
      have i9 : (0 : Int) ≤ (k : Int) := by omega
      have i8 : IntKind.i64.wrap ((k : Int) + 1) = (k : Int) + 1 := by rw [IntKind.wrap_i64]; omega
      have HBD2 := hide hbad
      have HEL2 := hide hel
      obtain ⟨a0, a1⟩ := HCELL.out wr HX.out
      clear hbad hel
      have HB1 := hide (Blk.new wr 35 #[.int .i64 q, .slice sA sn sc])
      have HX1 : Hid (Ext w (wr.alloc (.cells #[.int .i64 q, .slice sA sn sc] 35))) := hide (Ext.trans HX.out (Ext.alloc _ _))
      by_cases hr : q < 0 ∨ 4294967295 < q
      · have HO := hide (fun (W : World) => out_yes (lo := 0) (hi := 4294967295) hr W)
        have h1 : je = 1 := by rw [HEL2.out, HFF.out, if_pos hr]; rfl
        have HFB := hide (HBD2.out (by omega))
        have HFB : Hid (joinF L = 1 ∧ joinL L = []) := hide (by rw [← h1]; exact HFB.out)
        clear hr h1 hprev
        go_wp2_with fail
        with_reducible refine (HO.out _).mono ?_
        rintro e w' ⟨rfl, rfl⟩
        go_wp2_with fail
        refine bodyPost_ret (v := .tuple #[.slice none 0 0, .int .i64 1]) (by simp [results, Try.results14, go_sem]) rfl (gives_nil' HFB.out.1 HFB.out.2 HX1.out)
      have hr' : 0 ≤ q ∧ q ≤ 4294967295 := by omega
      have HO := hide (fun (W : World) => out_no (lo := 0) (hi := 4294967295) hr' W)
      have HC := hide (fun (W : World) (hW : Ext w W) => keySamples_any (HSAT.out.ext hW))
      have hff : ff = smpF xs := by rw [HFF.out, if_neg hr]
      rw [hff] at HEL2
      clear hr hff HFF
      go_wp2_with fail
      with_reducible refine (HO.out _).mono ?_
      rintro e w' ⟨rfl, rfl⟩
      go_wp2_with fail
      with_reducible refine (HC.out _ HX1.out).mono ?_
      rintro e w4 ⟨rfl, e4⟩
      have b4 := HB1.out.ext e4
      have c40 : w4.cell? ⟨wr.heap.size, 0, none⟩ = some (.int .i64 q) := b4.cell 0
      have c41 : w4.cell? ⟨wr.heap.size, 1, none⟩ = some (.slice sA sn sc) := b4.cell 1
      have HX4 : Hid (Ext w w4) := hide (Ext.trans HX1.out e4)
      have HO4 : Hid (Own w4 w.heap.size 40 5 eSm (.slice vA f0.length vc) f0) := hide (HOW.out.ext (Ext.trans (Ext.alloc _ _) e4))
      clear b4 e4 HB1 a0 a1
      obtain ⟨fx, hfx⟩ : ∃ fx, fx = smpF xs := ⟨_, rfl⟩
      rw [← hfx] at HEL2 ⊢
      by_cases hz : fx = 0
      case neg =>
        have h1 : je = fx := by rw [HEL2.out, if_pos hz]
        have HFB := hide (HBD2.out (by omega))
        have HFB : Hid (joinF L = fx ∧ joinL L = []) := hide (by rw [← h1]; exact HFB.out)
        have d0 : (fx != 0) = true := by simp [hz]
        clear hz h1 hprev HEL2 hfx
        go_wp2_with fail
        refine bodyPost_ret (v := .tuple #[.slice none 0 0, .int .i64 fx]) (by simp [results, Try.results14, go_sem]) rfl (gives_nil' HFB.out.1 HFB.out.2 HX4.out)
      case pos =>
      have hx5 : xs.length ≤ 5000 := (smpF_zero (by rw [← hfx, hz])).1
      have hqr : 0 ≤ q ∧ q ≤ 4294967295 := hr'
      have hsl := HSAT.out.len
      have M1 : Hid (f0.length + sn ≤ maxLen) := hide (by unfold maxLen; omega)
      have M2 : Hid ((f0.length + sn) * 40 ≤ 140737488355328) := hide (by omega)
      have h2 : je = if 0 < k ∧ q ≠ p + 1 then 8 else 0 := by rw [HEL2.out, if_neg (by simp [hz])]
      have HJ := hide h2
      have HS4 : Hid (At w4 5 eSm sA sn sc xs) := hide (HSAT.out.ext HX4.out)
      have HFXX := hide hfx
      clear hfx
      subst hz
      clear h2 HEL2 hsl
      rcases Nat.eq_zero_or_pos k with hk0 | hk0
      · have d0 : decide ((0 : Int) < (k : Int)) = false := by simp; omega
        have d1 : decide (0 < k) = false := by simp; omega
        have HAN := hide (HGO.out (by rw [HJ.out, if_neg (fun h => by omega)]))
        clear hk0 hprev
        go_wp2_with fail
        go_quiet (fail)
        by_cases hc5 : f0.length ≤ 5000
        · have HQ : Hid (capL L (k + 1) = f0 ++ xs) := hide (by rw [HSUK.out, if_pos hc5])
          have hc6 : (f0.length : Int) ≤ 5000 := by omega
          go_wp2_with (at_builtin; refine wpList_append_at _ rfl (.tmp 45) (.tmp 47) 30 rfl w.heap.size 40 i0 _ 40 Try.underlying30 hi0 hz0 hz1 hz2 rfl (by omega) len_eSm one_eSm (.slice vA f0.length vc) f0 (by rfl) (HO4.out.ext (below_drewN (Ext.refl _) _)) sA sn sc xs (by rfl) (HS4.out.ext (below_drewN (Ext.refl _) _)) M1.out M2.out (below_drewN (Ext.refl _) _ |>.size |> Nat.le_trans HX4.out.size) ?_; intro v7 w7 o7 g7 _ _; have HO7 := hide o7; have HE7 : Hid (Ext w w7) := hide ((HO4.out.ext (below_drewN (Ext.refl _) _)).below (Ext.trans HX4.out (below_drewN (Ext.refl _) _)) g7 (Nat.le_refl _)); clear o7 g7)
          exact ⟨⟨k + 1, by omega, by go_num, HAN, hide ⟨by rw [HQ.out]; exact HO7.out, HE7.out⟩⟩, by simp [intOf]; omega⟩
        · have HQ : Hid (capL L (k + 1) = f0) := hide (by rw [HSUK.out, if_neg hc5])
          have hc6 : ¬ (f0.length : Int) ≤ 5000 := by omega
          go_wp2_with fail
          exact ⟨⟨k + 1, by omega, by go_num, HAN, hide ⟨by rw [HQ.out]; exact HO4.out.ext (below_drewN (Ext.refl _) _), Ext.trans HX4.out (below_drewN (Ext.refl _) _)⟩⟩, by simp [intOf]; omega⟩
      · have d0 : decide ((0 : Int) < (k : Int)) = true := by simp; omega
        have d1 : decide (0 < k) = true := by simp; omega
        have i2 : IntKind.i64.wrap ((k : Int) - 1) = (k : Int) - 1 := by rw [IntKind.wrap_i64]; omega
        have i3 : ((k : Int) - 1).toNat = k - 1 := by omega
        have i4 : 0 ≤ (k : Int) - 1 := by omega
        have i5 : (k : Int) - 1 < (n : Int) := by omega
        have i6 : 1 ≤ (k : Int) := by omega
        have i7 : (k : Int) ≤ (n : Int) := by omega
        have hp := hprev hk0
        have i10 : IntKind.i64.wrap (p + 1) = p + 1 := by rw [IntKind.wrap_i64]; omega
        have hq4 := HPRE.out w4 HX4.out hk0
        clear hprev
        by_cases hqp : q = p + 1
        · have d2 : (q != p + 1) = false := by simp [hqp]
          have HAN := hide (HGO.out (by rw [HJ.out, if_neg (fun h => h.2 hqp)]))
          clear hqp
          go_wp2_with fail
          go_quiet (fail)
          by_cases hc5 : f0.length ≤ 5000
          · have HQ : Hid (capL L (k + 1) = f0 ++ xs) := hide (by rw [HSUK.out, if_pos hc5])
            have hc6 : (f0.length : Int) ≤ 5000 := by omega
            go_wp2_with (at_builtin; refine wpList_append_at _ rfl (.tmp 45) (.tmp 47) 30 rfl w.heap.size 40 i0 _ 40 Try.underlying30 hi0 hz0 hz1 hz2 rfl (by omega) len_eSm one_eSm (.slice vA f0.length vc) f0 (by rfl) (HO4.out.ext (below_drewN (Ext.refl _) _)) sA sn sc xs (by rfl) (HS4.out.ext (below_drewN (Ext.refl _) _)) M1.out M2.out (below_drewN (Ext.refl _) _ |>.size |> Nat.le_trans HX4.out.size) ?_; intro v7 w7 o7 g7 _ _; have HO7 := hide o7; have HE7 : Hid (Ext w w7) := hide ((HO4.out.ext (below_drewN (Ext.refl _) _)).below (Ext.trans HX4.out (below_drewN (Ext.refl _) _)) g7 (Nat.le_refl _)); clear o7 g7)
            exact ⟨⟨k + 1, by omega, by go_num, HAN, hide ⟨by rw [HQ.out]; exact HO7.out, HE7.out⟩⟩, by simp [intOf]; omega⟩
          · have HQ : Hid (capL L (k + 1) = f0) := hide (by rw [HSUK.out, if_neg hc5])
            have hc6 : ¬ (f0.length : Int) ≤ 5000 := by omega
            go_wp2_with fail
            exact ⟨⟨k + 1, by omega, by go_num, HAN, hide ⟨by rw [HQ.out]; exact HO4.out.ext (below_drewN (Ext.refl _) _), Ext.trans HX4.out (below_drewN (Ext.refl _) _)⟩⟩, by simp [intOf]; omega⟩
        · have d2 : (q != p + 1) = true := by simp [hqp]
          have h1 : je = 8 := by rw [HJ.out, if_pos ⟨hk0, hqp⟩]
          have HFB := hide (HBD2.out (by omega))
          have HFB : Hid (joinF L = 8 ∧ joinL L = []) := hide (by rw [← h1]; exact HFB.out)
          clear hqp h1
          go_wp2_with fail
          go_quiet (fail)
          go_wp2_with fail
          refine bodyPost_ret (v := .tuple #[.slice none 0 0, .int .i64 8]) (by simp [results, Try.results14, go_sem]) rfl (gives_nil' HFB.out.1 HFB.out.2 (Ext.trans HX4.out (Ext.drewN _ _)))
    obtain rfl : n = k := by omega
    have HJ := hide (HALL.out HA.out)
    have HJL : Hid (joinL L = if joinF L = 0 then flS L else []) := hide rfl
    have HEQ : Hid (smpF (capL L n) = smpF (flS L) ∧ (smpF (flS L) = 0 → capL L n = flS L)) := hide (by have := capL_smpF (L := L); rwa [HL.out] at this)
    generalize capL L n = f0 at *
    subst hv
    have HS4 := hide (HOW.out.atS len_eSm)
    have HC := hide (fun (W : World) (hW : Ext wr W) => keySamples_any (HS4.out.ext hW))
    have i0' : ¬ (n : Int) < (n : Int) := by omega
    obtain ⟨fx, hfx⟩ : ∃ fx, fx = smpF f0 := ⟨_, rfl⟩
    rw [← hfx] at HC
    by_cases hz : fx = 0
    · have HR : Hid (joinF L = 0 ∧ joinL L = f0) := hide (by
        have h1 : joinF L = 0 := by rw [HJ.out, ← HEQ.out.1, ← hfx, hz]
        exact ⟨h1, by rw [HJL.out, if_pos h1]; exact (HEQ.out.2 (by rw [← HEQ.out.1, ← hfx, hz])).symm⟩)
      subst hz
      clear hfx
      go_wp2_with fail
      with_reducible refine (HC.out _ (by first | exact Ext.refl _ | exact below_drewN (Ext.refl _) _)).mono ?_
      rintro e w4 ⟨rfl, e4⟩
      have hfin : Hid (Ext w w4 ∧ Own w4 w.heap.size 40 5 eSm (.slice vA f0.length vc) f0) := hide ⟨Ext.trans HX.out e4, HOW.out.ext e4⟩
      clear e4
      go_wp2_with fail
      refine bodyPost_ret (v := .tuple #[.slice vA f0.length vc, .int .i64 0]) (by simp [results, Try.results14, go_sem]) rfl (gives_at HR.out.1 HR.out.2.symm (hfin.out.2.atS len_eSm) hfin.out.1)
    · have HR : Hid (joinF L = fx ∧ joinL L = []) := hide (by
        have h1 : joinF L = fx := by rw [HJ.out, ← HEQ.out.1, ← hfx]
        exact ⟨h1, by rw [HJL.out, if_neg (by rw [h1]; exact hz)]⟩)
      have d0 : (fx != 0) = true := by simp [hz]
      clear hfx hz
      go_wp2_with fail
      with_reducible refine (HC.out _ (by first | exact Ext.refl _ | exact below_drewN (Ext.refl _) _)).mono ?_
      rintro e w4 ⟨rfl, e4⟩
      have E4 := hide (Ext.trans HX.out e4)
      clear e4
      go_wp2_with fail
      refine bodyPost_ret (v := .tuple #[.slice none 0 0, .int .i64 fx]) (by simp [results, Try.results14, go_sem]) rfl (gives_nil' HR.out.1 HR.out.2 E4.out)
end Go.Proofs.Ytgnmnhlhiiehfaa
