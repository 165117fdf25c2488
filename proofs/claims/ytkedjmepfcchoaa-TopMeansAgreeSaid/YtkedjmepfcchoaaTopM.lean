/- Proved: for every film TopMeansAgree returns true: the mean rates of a film by the player are those of its segments by the ladder, rounded Down; the argument reads as it did. Conditions: none. -/
import Derived.Test.YtkedjmepfcchoaaRates
import Derived.Test.YtkedjmepfcchoaaLadM
import Derived.Test.YtkedjmepfcchoaaAwakeP
import Derived.Test.YtkedjmepfcchoaaShows
namespace Go.Proofs.Ytkedjmepfcchoaa
open Go.ChangeShapes Go.WideShapes Go.ChangeAt Go.RowKit

theorem sum8 : ∀ {l : List Int}, (∀ j, j < l.length → l.getD j 0 % 8 = 0) → (l.map (· / 8)).sum * 8 = l.sum
  | [], _ => rfl
  | x :: xs, h => by
    have ih := sum8 (l := xs) (fun j hj => by have := h (j + 1) (by simpa using hj); simpa [List.getD] using this)
    have h0 := h 0 (by simp)
    simp [List.getD] at h0
    simp only [List.map_cons, List.sum_cons]
    omega
/-- The mean by the ladder, rounded, is the one by the player. -/
theorem mean_same {l : List Int} {n d Lq : Nat} (h8 : ∀ j, j < l.length → l.getD j 0 % 8 = 0) (hp : 0 ≤ l.sum) (h : n / d = (l.map (· / 8)).sum.toNat * 8 * 1000 / Lq) : (n : Int) / (d : Int) = 1000 * l.sum / (Lq : Int) := by
  have hs := sum8 h8
  generalize (l.map (· / 8)).sum = X at *
  have : ((n / d : Nat) : Int) = ((X.toNat * 8 * 1000 / Lq : Nat) : Int) := by rw [h]
  rw [Int.natCast_ediv, Int.natCast_ediv] at this
  rw [this, show ((X.toNat * 8 * 1000 : Nat) : Int) = 1000 * l.sum by omega]
theorem getD_map8 (l : List Int) (k : Nat) (h : k < l.length) : (l.map (· / 8)).getD k 0 = l.getD k 0 / 8 := by simp [List.getD, h]
theorem ratesL_getD (L : List Int) (S : List (List Int)) (i : Nat) (h : i < S.length) : (ratesL L S).getD i 0 = 1000 * (S.getD i []).sum / L.sum := by simp [ratesL, List.getD, h]
set_option maxRecDepth 100000 in
set_option maxHeartbeats 8000000 in
theorem topMeans_any {lA : Option Addr} {ln lc : Nat} {sA : Option Addr} {sn sc : Nat} {qA : Option Addr} {qn qc : Nat} {L : List Int} {S : List (List Int)} {Q : List Int} {w : World} (h : Shw w lA ln lc sA sn sc qA qn qc L S Q) :
    Calls Try.prog 4 #[shV lA ln lc sA sn sc qA qn qc] w fun e w' => e = .returned (.bool true) ∧ Ext w w' := by
  obtain ⟨i0, hi0, hz0, hz1, hz2⟩ := info_parts Try.info3
  have EA := hide (Ext.alloc w (shO lA ln lc sA sn sc qA qn qc))
  have HCL := hide (fun (W : World) hW => sh_cells w lA ln lc sA sn sc qA qn qc (W := W) hW)
  have HR := hide (fun (W : World) (hW : Ext w W) => keyRates_any (h.ext hW))
  have HAW := hide (fun (W : World) => comes_any W)
  have HH := hide h
  have LL := hide h.longs.len
  have LS := hide h.sizes.len
  have hbs := h.sizes.bound
  clear h
  by_cases hz : filmF L S Q = 0
  rotate_left
  · have hm : mratesL L S Q = [] := by unfold mratesL; rw [if_neg hz]
    rw [hm] at HR
    have hb : (filmF L S Q != 0) = true := by rw [bne_iff_ne]; exact hz
    generalize filmF L S Q = ff at *
    clear hz hm
    go_enter Try.func4, Try.ntmps4
    go_wp2_with fail
    refine (HR.out _ EA.out).mono ?_
    rintro e w1 ⟨A1, n1, c1, rfl, r1, e1⟩
    have E1 := hide (Ext.trans EA.out e1)
    have hn1 : n1 = 0 := by have := r1.len; simpa using this.symm
    subst hn1
    clear r1 e1
    go_wp2_with (((go_at_call 28; with_reducible refine (HAW.out _).mono ?_); rintro e w2 ⟨rfl, e2⟩))
    go_ret
    exact ⟨rfl, Ext.trans E1.out e2⟩
  have ok := hide (filmF_ok hz)
  have hm : mratesL L S Q = ratesL L S := by unfold mratesL; rw [if_pos hz]
  rw [hm, hz] at HR
  clear hm hz
  have hln : ln ≤ 200 := by have := ok.out.l1; have := LL.out; omega
  have hln0 : 0 < ln := by have := ok.out.l0; have := LL.out; omega
  have hsn : sn ≤ 20 := by have := ok.out.s1; have := LS.out; omega
  have hsn0 : 0 < sn := by have := ok.out.s0; have := LS.out; omega
  obtain ⟨bs, os, rfl⟩ := HH.out.sizes.addr hsn0
  have hLs := sum_pos (l := L) (by have := LL.out; omega) (by have := LL.out; omega) ok.out.lr
  go_enter Try.func4, Try.ntmps4
  go_wp2_with fail
  refine (HR.out _ EA.out).mono ?_
  rintro e w1 ⟨A1, n1, c1, rfl, r1, e1⟩
  obtain ⟨k0, k1, k2⟩ := HCL.out w1 e1
  have hn1 : sn = n1 := by have := r1.len; simp [ratesL] at this; have := LS.out; omega
  subst hn1
  have P1 := hide r1
  have E1 := hide e1
  obtain ⟨b1, o1, rfl, _⟩ := r1.addr hsn0
  clear r1 e1
  go_wp2_with fail
  go_loopw [5] (fun ri wr => ∃ i : Nat, i ≤ sn ∧ ri = .int .i64 i ∧ Hid (Ext w1 wr)) (fun ri _ => sn - (intOf ri).toNat)
  case atStart => exact ⟨0, by omega, rfl, hide (Ext.refl _)⟩
  case round =>
    obtain ⟨i, hi, rfl, HX⟩ := hrel
    clear k0 k1 k2
    have HXA := hide (Ext.trans E1.out HX.out)
    have HW := hide (Ext.trans EA.out HXA.out)
    obtain ⟨d0, d1, d2⟩ := HCL.out wr HXA.out
    by_cases hlt : i < sn
    rotate_left
    · go_wp2_with (((go_at_call 28; with_reducible refine (HAW.out _).mono ?_); rintro e w2 ⟨rfl, e2⟩))
      go_ret
      exact ⟨rfl, Ext.trans HW.out e2⟩
    obtain ⟨wo, rfl⟩ : ∃ wo, wo = wr := ⟨_, rfl⟩
    obtain ⟨rA, rn, rc, rcell, rat⟩ := (HH.out.ext HW.out).sizes.row hlt
    have hrl := rat.len
    have hrn : rn = ln := by have := ok.out.sl i (by have := LS.out; omega); have := LL.out; omega
    subst hrn
    have HRR := hide (fun k hk => ok.out.sr i (by have := LS.out; omega) k hk)
    have HRL := hide hrl
    have HRA := hide rat
    have HRAT : Hid (wo.cell? ⟨b1, o1 + i, none⟩ = some (.int .i64 (1000 * (S.getD i []).sum / L.sum))) := hide (by
      have := (P1.out.ext HX.out).num hlt
      rw [ratesL_getD L S i (by have := LS.out; omega)] at this
      exact this)
    obtain ⟨rb, ro, rfl, _⟩ := rat.addr (by omega)
    have hsp := sumI_bound (l := S.getD i []) (fun j hj => by have := HRR.out j (by have := LL.out; omega); omega) (S.getD i []).length (Nat.le_refl _)
    rw [sumI_all rfl] at hsp
    have HSP := hide hsp.1
    have hq0 : 0 ≤ 1000 * (S.getD i []).sum / L.sum := Int.ediv_nonneg (by omega) (by omega)
    have hq1 : 1000 * (S.getD i []).sum / L.sum ≤ 1000 * (S.getD i []).sum := Int.ediv_le_self _ (by omega)
    have hq2 : (S.getD i []).sum ≤ 1000000000 * 200 := by omega
    generalize S.getD i [] = r at *
    have HQ0 := hide hq0; have HQ1 := hide hq1; have HQ2 := hide hq2
    clear rat hrl hsp hq0 hq1 hq2
    go_wp2_with fail
    go_loopw [6, 7] (fun rv rk wr => ∃ k : Nat, k ≤ rn ∧ rk = .int .i64 k ∧ Hid (Own wr wo.heap.size 3 1 e64 rv ((r.take k).map (· / 8))) ∧ Hid (∀ j, j < k → r.getD j 0 % 8 = 0) ∧ Hid (Ext wo wr)) (fun _ rk _ => rn - (intOf rk).toNat)
    case atStart => exact ⟨0, by omega, rfl, hide (by simpa using Own.nil _ _ _ _ _), hide (fun j hj => by omega), hide (Ext.refl _)⟩
    case round =>
      obtain ⟨k, hk, rfl, HO, H8, HY⟩ := hrel
      have HYA := hide (Ext.trans HXA.out HY.out)
      obtain ⟨f0, f1, f2⟩ := HCL.out wr HYA.out
      have rc1 := HY.out.cell rcell
      have HXY := hide (Ext.trans HX.out HY.out)
      have HWY := hide (Ext.trans HW.out HY.out)
      clear d0 d1 d2 rcell
      by_cases hkt : k < rn
      · have a1 := (HRA.out.ext HY.out).num hkt
        have hx := HRR.out k (by have := LL.out; omega)
        have HS8 : Hid (r.getD k 0 % 8 = 0 → ∀ j, j < k + 1 → r.getD j 0 % 8 = 0) := hide (fun hb j hj => by
          rcases Nat.lt_succ_iff_lt_or_eq.1 hj with h | h
          · exact H8.out j h
          · rw [h]; exact hb)
        have HTK : Hid ((r.take (k + 1)).map (· / 8) = (r.take k).map (· / 8) ++ [r.getD k 0 / 8]) := hide (by rw [getD_take r k 0 (by have := HRL.out; omega), List.map_append]; rfl)
        have xl : ((r.take k).map (· / 8)).length = k := by simp; have := HRL.out; omega
        have S1 : Hid (((r.take k).map (· / 8)).length + 1 ≤ maxLen) := hide (by rw [xl]; unfold maxLen; omega)
        have S2 : Hid ((((r.take k).map (· / 8)).length + 1) * 8 ≤ 140737488355328) := hide (by rw [xl]; omega)
        generalize r.getD k 0 = x at *
        clear xl
        by_cases h8 : x % 8 = 0
        · have g8 : (x % 8 != 0) = false := by simp [h8]
          have HG8 := hide (HS8.out h8)
          have x0 : 0 ≤ x := by omega
          have x1 : x ≤ 1000000000 := by omega
          clear h8 hx
          go_wp2_with (at_builtin; refine wpList_append_at _ rfl (.tmp 62) (.tmp 72) 22 rfl wo.heap.size 3 i0 _ 8 Try.underlying22 hi0 hz0 hz1 hz2 rfl (by omega) len_e64 one_e64 _ _ (by rfl) (HO.out.ext (by repeat' (first | (with_reducible exact Below.refl _ _) | (with_reducible assumption) | (with_reducible refine below_drewN ?_ _) | (with_reducible refine Below.drew ?_) | (with_reducible refine ext_alloc ?_ _) | (with_reducible refine Below.setCell ?_ ?_ _) | go_size))) (some ⟨wr.heap.size, 0, none⟩) 1 1 [x / 8] (by rfl) (At.new1 (enc := e64) wr (x / 8) _ rfl _) S1.out S2.out (Nat.le_trans HY.out.size (by simp)) ?_)
          intro v3 w3 o3 g3 _ _
          have O3 := hide o3
          have E3 := hide (Own.below (w0 := wo) (HO.out.ext (by repeat' (first | (with_reducible exact Below.refl _ _) | (with_reducible assumption) | (with_reducible refine below_drewN ?_ _) | (with_reducible refine Below.drew ?_) | (with_reducible refine ext_alloc ?_ _) | (with_reducible refine Below.setCell ?_ ?_ _) | go_size))) (Ext.trans HY.out (by repeat' (first | (with_reducible exact Below.refl _ _) | (with_reducible assumption) | (with_reducible refine below_drewN ?_ _) | (with_reducible refine Below.drew ?_) | (with_reducible refine ext_alloc ?_ _) | (with_reducible refine Below.setCell ?_ ?_ _) | go_size))) g3 (Nat.le_refl _))
          clear o3 g3
          go_wp2_with fail
          go_roundw
          case rel => exact ⟨k + 1, by omega, by go_num, hide (by rw [HTK.out, List.map_take]; exact O3.out), HG8, E3⟩
          case measure => simp [intOf]; omega
        · have g8 : (x % 8 != 0) = true := by simp [h8]
          have x0 : 0 ≤ x := by omega
          have x1 : x ≤ 1000000000 := by omega
          have gl : ((0 : Int) != (rn : Int)) = true := by simp; omega
          clear h8 hx
          go_wp2_with fail
          go_roundw
          case rel => exact ⟨i + 1, by omega, by go_num, HXY⟩
          case measure => simp [intOf]; omega
      · obtain rfl : k = rn := by omega
        have ho := HO.out
        rw [List.take_of_length_le (by have := HRL.out; omega)] at ho
        obtain ⟨A3, c3, hv3, a3⟩ := ho.at_ len_e64
        have hl3 : (r.map (· / 8)).length = k := by simp; have := HRL.out; omega
        rw [hl3] at hv3 a3
        subst hv3
        have H8A : Hid (∀ j, j < r.length → r.getD j 0 % 8 = 0) := hide (fun j hj => H8.out j (by have := HRL.out; omega))
        have HM := hide (mean_any a3 (HH.out.ext HWY.out).longs rfl (by omega) (by omega) (fun j hj => by
          have hj2 : j < r.length := by simpa using hj
          have := HRR.out j (by have := HRL.out; have := LL.out; omega)
          rw [getD_map8 r j hj2]; omega) ok.out.lr)
        have ra1 := HY.out.cell HRAT.out
        have gl : ((k : Int) != (k : Int)) = false := by simp
        clear ho a3 hl3
        go_wp2_with fail
        refine HM.out.mono ?_
        rintro e w5 ⟨n, d, rfl, hd, hnd, e5⟩
        have ra2 := e5.cell ra1
        have hq := mean_same H8A.out HSP.out hnd
        rw [show ((L.sum.toNat : Nat) : Int) = L.sum by omega] at hq
        have hq0 := HQ0.out
        have hq1 := HQ1.out
        have hq2 := HQ2.out
        clear HRAT
        generalize 1000 * r.sum / L.sum = q at *
        have hq3 : q ≤ 1000000000 * 200 * 1000 := by omega
        have E5 := hide (Ext.trans HXY.out e5)
        have ra3 := (Ext.alloc w5 (.cells #[.int .i64 (n : Int), .int .i64 (d : Int)] 40)).cell ra2
        have g1 : decide ((d : Int) < 1) = false := by simp; omega
        have g2 : (d : Int) ≠ 0 := by omega
        have g3 : (0 : Int) < (d : Int) := by omega
        have i0' : (0 : Int) ≤ (i : Int) := by omega
        have i1' : (i : Int) < (sn : Int) := by omega
        clear hnd e5 ra1 hq1 hq2 HQ0 HQ1 HQ2
        go_wp2_with fail
        go_quiet (fail)
        go_wp2_with fail
        go_roundw
        case rel => exact ⟨i + 1, by omega, by go_num, hide (Ext.trans E5.out (by repeat' (first | (with_reducible exact Below.refl _ _) | (with_reducible assumption) | (with_reducible refine below_drewN ?_ _) | (with_reducible refine Below.drew ?_) | (with_reducible refine ext_alloc ?_ _) | (with_reducible refine Below.setCell ?_ ?_ _) | go_size)))⟩
        case measure => simp [intOf]; omega

set_option maxRecDepth 100000 in
theorem topMeansAgree_lifted (os : Os) (started : os.Started) (H : Type) (enc : TypeId × Value → H) :
    ReturnsInHanded {} Try.checked os 4 .any (Rows.topMeansAgreeSpec.pre6 enc Try.prog Try.f4 Rows.topMeansAgreeRow.domain false) (Rows.topMeansAgreeSpec.post enc Try.prog Try.f4 false true false false) := by
  refine returnsInHanded_of_change_sized (C := Try.checked) Try.own started (by kernel_rfl) Try.func4
    (ChangeSpec.witness6 (enc := enc) (C := Try.checked) false ⟨#[], #[.agg #[.slice none 0 0, .slice none 0 0, .slice none 0 0]], []⟩ 8 (by kernel_rfl) (by kernel_rfl) (by kernel_rfl) (by kernel_rfl)) ?_
  intro W base args ds gs before hval0 hW _ _ _
  have hval : ∀ (j : Nat) t v, Try.f4.params[j]? = some t → args[j]? = some v → Value.okWide Try.prog W .any base t v := hval0
  have hW' := hW
  obtain ⟨p, q, hA0, hV, rfl, _, _⟩ := hW
  have hA : DataW.TrodAll enc Try.prog W 0 (fun _ => true) true Try.f4.params.toList args.toList ds p := hA0
  rw [Try.params4] at hA hval
  obtain ⟨v0, d0, rfl, rfl, h0⟩ := trodAll_one hA
  obtain ⟨lA, ln, lc, sA, sn, sc, qA, qn, qc, L, S, Q, rfl, hSh⟩ := open_show (hval 0 25 v0 rfl rfl) h0
  refine (topMeans_any hSh).mono fun e W' ⟨he, hE⟩ => ?_
  subst he
  exact ⟨_, rfl, law_post Try.laidOut Try.underlying4 hW' rfl rfl rfl (by kernel_rfl) hE⟩
theorem topMeansAgree_closed : joinedFacts Try.prog 4 Try.f4 Rows.topMeansAgreeSpec Rows.topMeansAgreeRow = true :=
  joined_of Try.laidOut Try.mapsRowed Try.plainKeys Try.stopsHeard Try.stopsNone Try.knobsNone Try.mayEnter Try.makeCut Try.liftsFinal rfl rfl rfl (by as_aux_lemma => kernel_rfl)
    (by as_aux_lemma => kernel_rfl) (by as_aux_lemma => kernel_rfl) (by as_aux_lemma => kernel_rfl) (by as_aux_lemma => kernel_rfl) (by as_aux_lemma => kernel_rfl) (by as_aux_lemma => kernel_rfl) (by as_aux_lemma => kernel_rfl) (by as_aux_lemma => kernel_rfl) (by as_aux_lemma => kernel_rfl) (by as_aux_lemma => kernel_rfl)
theorem topMeansAgree_holds : Rows.TopMeansAgreeSaid :=
  OpenClaim.holds_of_wide 4 Try.f4 rfl rfl rfl rfl rfl rfl rfl ⟨rfl, rfl, rfl, rfl, rfl⟩ rfl rfl rfl rfl rfl (by as_aux_lemma => kernel_rfl) Try.func4 topMeansAgree_closed
    (of_decide_eq_true (by kernel_rfl)) (by unfold Func.isWrapper; first | (rw [if_pos (by decide +kernel)]; kernel_rfl) | (rw [if_neg (by decide +kernel)]; exact ⟨rfl, rfl⟩))
    (fun os started H enc _ => topMeansAgree_lifted os started H enc)
#print axioms topMeansAgree_holds
end Go.Proofs.Ytkedjmepfcchoaa
