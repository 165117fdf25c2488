/- Several texts in one: Plain: on a network that is the same all the time, who goes by rates takes none that has more than the network. Conditions as stated; Walks: MeanRates (both). Conditions as stated; The statements' awake and comes: both are true. No condition. -/
import Derived.Test.YtfelgolfebhmkaaDoorMtm44
import Derived.Test.YtfelgolfebhmkaaDoorMtm34
import Derived.Test.YtfelgolfebhmkaaDoorMtm17
namespace Go.Proofs.YtfelgolfebhmkaaDoor
open Go.RowKit
theorem endsP_one {r f b : Int} (hr : 1 ≤ r) (hf : f ≤ 500000000000000000) (hb : 1 ≤ b ∧ b ≤ 1000000000) : f < endsP [(0, r)] f b ∧ b ≤ r * (endsP [(0, r)] f b - f) := by
  have n1 := need_le (b := b) (r := r) (d := b) (by omega)
  have n2 := need_le (b := b) (r := r) (d := (b + r - 1) / r) (by omega)
  have n3 := need_le (b := b) (r := r) (d := 0) (by omega)
  have m1 : b ≤ r * b := by
    have := Int.mul_le_mul_of_nonneg_right hr (show 0 ≤ b by omega)
    omega
  have eh : hdT [] = 1152921504606846976 := rfl
  have h1 := n1.2 m1
  have h2 := n2.1 (Int.le_refl _)
  have h3 : ¬ (b + r - 1) / r ≤ 0 := fun h => by have := n3.1 h; omega
  have e : endsP [(0, r)] f b = f + (b + r - 1) / r := by
    show (if b = 0 then f else if hdT [] ≤ f ∨ r = 0 then endsP [] (max f (hdT [])) b else if (b + r - 1) / r ≤ hdT [] - f then f + (b + r - 1) / r else endsP [] (hdT []) (b - r * (hdT [] - f))) = _
    rw [if_neg (by omega), if_neg (by rw [eh]; omega), if_pos (by rw [eh]; omega)]
  rw [e]
  refine ⟨by omega, ?_⟩
  rw [show f + (b + r - 1) / r - f = (b + r - 1) / r by omega]
  exact h2
def ldOk (r : Int) (l : List (Int × Int)) : Prop := ∀ x ∈ l, 1 ≤ x.2 ∧ x.1 ≤ r * x.2
theorem ldOk.drop {r : Int} {l : List (Int × Int)} (h : ldOk r l) (k : Nat) : ldOk r (l.drop k) := fun x hx => h x (List.mem_of_mem_drop hx)
theorem ld_sum {r : Int} : ∀ {l : List (Int × Int)}, ldOk r l → sumB l ≤ r * sumG l ∧ (l.length : Int) ≤ sumG l
  | [], _ => by simp [sumB, sumG]
  | x :: l, h => by
    have h1 := ld_sum (l := l) (fun y hy => h y (List.mem_cons_of_mem _ hy))
    have h2 := h x (List.mem_cons_self ..)
    have e1 : sumB (x :: l) = x.1 + sumB l := by simp [sumB]
    have e2 : sumG (x :: l) = x.2 + sumG l := by simp [sumG]
    rw [e1, e2, Int.mul_add, List.length_cons]
    omega
section
variable {full start resume : Int} {L : List Int} {S : List (List Int)} {pk : Nat → Int → Int → List (Int × Int) → Int → Int} {r d : Int}
theorem loads_ok (h : RunOk full start resume L S pk (trF [(0, r)] d) 1000000000000 1000100000) (hr : 1 ≤ r) (hd : 0 ≤ d ∧ d ≤ 100000) (hs : ∀ i j, i < S.length → j < L.length → 1 ≤ (S.getD i []).getD j 0 ∧ (S.getD i []).getD j 0 ≤ 1000000000) :
    ∀ n, n ≤ L.length → ldOk r (folF full start resume L S pk (trF [(0, r)] d) n).loads ∧ (folF full start resume L S pk (trF [(0, r)] d) n).loads.length = n
  | 0, _ => ⟨fun x hx => (by cases hx), rfl⟩
  | n + 1, hn => by
    obtain ⟨h1, h2⟩ := loads_ok h hr hd hs n (by omega)
    obtain ⟨a1, a2, a3, _⟩ := h.all n (by omega)
    obtain ⟨_, b2, b3, b4, _⟩ := h.step (n := n) (by omega)
    have hf := h.few
    have c1 : asN full start resume L S pk (trF [(0, r)] d) n ≤ _ := (ask_bd a1).2
    have e : (folF full start resume L S pk (trF [(0, r)] d) (n + 1)).loads = (folF full start resume L S pk (trF [(0, r)] d) n).loads ++ [(zN full start resume L S pk (trF [(0, r)] d) n, tN full start resume L S pk (trF [(0, r)] d) n - asN full start resume L S pk (trF [(0, r)] d) n)] := rfl
    have hz := hs (rN full start resume L S pk (trF [(0, r)] d) n).toNat n (by omega) (by omega)
    have hz2 : zN full start resume L S pk (trF [(0, r)] d) n = (S.getD (rN full start resume L S pk (trF [(0, r)] d) n).toNat []).getD n 0 := rfl
    have ht : tN full start resume L S pk (trF [(0, r)] d) n = endsP [(0, r)] (asN full start resume L S pk (trF [(0, r)] d) n + d) (zN full start resume L S pk (trF [(0, r)] d) n) := rfl
    rw [← hz2] at hz
    have hE := endsP_one (r := r) (f := asN full start resume L S pk (trF [(0, r)] d) n + d) (b := zN full start resume L S pk (trF [(0, r)] d) n) hr (by omega) hz
    rw [← ht] at hE
    rw [e]
    refine ⟨fun x hx => ?_, by rw [List.length_append, h2]; rfl⟩
    rcases List.mem_append.1 hx with hx | hx
    · exact h1 x hx
    · rw [List.mem_singleton] at hx
      subst hx
      dsimp only
      refine ⟨by omega, ?_⟩
      have m := Int.mul_le_mul_of_nonneg_left (show tN full start resume L S pk (trF [(0, r)] d) n - (asN full start resume L S pk (trF [(0, r)] d) n + d) ≤ tN full start resume L S pk (trF [(0, r)] d) n - asN full start resume L S pk (trF [(0, r)] d) n by omega) (show 0 ≤ r by omega)
      omega
end
theorem lastF_yes (P : Nat → Bool) : ∀ n, 0 < lastF P n → P (lastF P n).toNat = true ∧ lastF P n < (n : Int)
  | 0, h => absurd h (by unfold lastF; omega)
  | n + 1, h => by
    rw [lastF_succ] at h ⊢
    by_cases hp : P n = true
    · rw [if_pos hp, Int.toNat_natCast]
      exact ⟨hp, by omega⟩
    · rw [if_neg hp] at h ⊢
      have := lastF_yes P n h
      exact ⟨this.1, by omega⟩
theorem rate_in {R : List Int} {bits long t r c : Int} (hl : 1 ≤ long) (hb : bits ≤ r * long) (ht : 0 ≤ t ∧ t ≤ 1000) (hr : 0 ≤ r) (hc : c = rateC R bits long t) (h0 : 0 < c) : R.getD c.toNat 0 ≤ 1000 * r ∧ c < (R.length : Int) := by
  have e : rateC R bits long t = lastF (fun i => decide (R.getD i 0 * long ≤ bits * t)) R.length := by unfold rateC; rw [if_neg (by omega)]
  rw [e] at hc
  rw [hc] at h0
  have h1 := lastF_yes _ _ h0
  rw [← hc] at h1
  have h2 := of_decide_eq_true h1.1
  refine ⟨?_, h1.2⟩
  have m0 : 0 ≤ r * long := Int.mul_nonneg hr (by omega)
  have m1 := Int.mul_le_mul_of_nonneg_right hb ht.1
  have m2 := Int.mul_le_mul_of_nonneg_left ht.2 m0
  have m3 : R.getD c.toNat 0 * long ≤ (1000 * r) * long := by
    have e3 : (1000 * r) * long = r * long * 1000 := by rw [Int.mul_comm 1000 r, Int.mul_assoc, Int.mul_comm 1000 long, ← Int.mul_assoc]
    omega
  exact Int.le_of_mul_le_mul_right m3 (by omega)
theorem choice_in {full start resume : Int} {L : List Int} {S : List (List Int)} {pk : Nat → Int → Int → List (Int × Int) → Int → Int} {r d l t c : Int} {R : List Int} (h : RunOk full start resume L S pk (trF [(0, r)] d) 1000000000000 1000100000) (hr : 1 ≤ r) (hd : 0 ≤ d ∧ d ≤ 100000) (hs : ∀ i j, i < S.length → j < L.length → 1 ≤ (S.getD i []).getD j 0 ∧ (S.getD i []).getD j 0 ≤ 1000000000)
    (hl : 1 ≤ l) (ht : 0 ≤ t ∧ t ≤ 1000) {n : Nat} (hn : n < L.length) (hn0 : 0 < n)
    (hc : c = rateC R (sumB ((folF full start resume L S pk (trF [(0, r)] d) n).loads.drop ((folF full start resume L S pk (trF [(0, r)] d) n).loads.length - l.toNat))) (sumG ((folF full start resume L S pk (trF [(0, r)] d) n).loads.drop ((folF full start resume L S pk (trF [(0, r)] d) n).loads.length - l.toNat))) t) (h0 : 0 < c) :
    R.getD c.toNat 0 ≤ 1000 * r ∧ c < (R.length : Int) := by
  obtain ⟨h1, h2⟩ := loads_ok h hr hd hs n (by omega)
  have h3 := ld_sum (h1.drop ((folF full start resume L S pk (trF [(0, r)] d) n).loads.length - l.toNat))
  rw [List.length_drop, h2] at h3
  rw [h2] at hc
  exact rate_in (by omega) h3.1 ht (by omega) hc h0
def mratesL (L : List Int) (S : List (List Int)) (Q : List Int) : List Int := if filmF L S Q = 0 then ratesL L S else []
section
variable {lA : Option Addr} {ln lc : Nat} {sA : Option Addr} {sn sc : Nat} {qA : Option Addr} {qn qc : Nat} {L : List Int} {S : List (List Int)} {Q : List Int} {w : World}
set_option maxRecDepth 100000 in
set_option maxHeartbeats 2000000 in
theorem keyRates_any (h : Shw w lA ln lc sA sn sc qA qn qc L S Q) :
    Calls Tryd.prog 4 #[shV lA ln lc sA sn sc qA qn qc] w (Gives 1 e64 w (mratesL L S Q) (filmF L S Q)) := by
  have EA := hide (Ext.alloc w (shO lA ln lc sA sn sc qA qn qc))
  have HCL := hide (fun (W : World) hW => sh_cells w lA ln lc sA sn sc qA qn qc (W := W) hW)
  have HC := hide (keyFilm_any (h.ext EA.out))
  have HH := hide h
  clear h
  unfold mratesL
  by_cases hz : filmF L S Q = 0
  · rw [if_pos hz, hz]
    have HM := hide (fun (W : World) (hW : Ext w W) => keyMean_any (HH.out.ext hW) (filmF_ok hz))
    rw [hz] at HC
    clear hz
    go_enter Tryd.func4, Tryd.ntmps4
    go_wp2_with fail
    refine HC.out.mono ?_
    rintro e w1 ⟨rfl, e1⟩
    obtain ⟨c0, c1, c2⟩ := HCL.out w1 e1
    have E1 := hide (Ext.trans EA.out e1)
    clear e1
    go_wp2_with fail
    refine (HM.out _ E1.out).mono ?_
    rintro e w2 ⟨A, n, c, rfl, a2, e2⟩
    have P2 := hide a2
    have E2 := hide (Ext.trans E1.out e2)
    clear e2 a2
    go_wp2_with fail
    go_ret2
    exact ⟨_, _, _, rfl, P2.out, E2.out⟩
  · rw [if_neg hz]
    have hb : (filmF L S Q != 0) = true := by rw [bne_iff_ne]; exact hz
    generalize filmF L S Q = r at *
    clear hz
    go_enter Tryd.func4, Tryd.ntmps4
    go_wp2_with fail
    refine HC.out.mono ?_
    rintro e w1 ⟨rfl, e1⟩
    have E1 := hide (Ext.trans EA.out e1)
    clear e1
    go_wp2_with fail
    go_ret2
    exact gives_nil _ E1.out
end
theorem comes_any (w : World) : Calls Tryd.prog 6 #[] w fun e w' => e = .returned (.bool true) ∧ Ext w w' := by
  have hF : cameF [(0, 2)] 0 3 = 0 := by decide
  have hV : cameV [(0, 2)] 0 3 = 6 := by decide
  have HC := hide (fun (W : World) => keyCame_any (At.pair1 W 0 2 31) 0 3)
  rw [hF, hV] at HC
  clear hF hV
  go_enter Tryd.func6, Tryd.ntmps6
  go_wp2_with fail
  refine (HC.out _).mono ?_
  rintro e w1 ⟨rfl, e1⟩
  have E1 := hide e1
  clear e1
  go_wp2
  go_ret
  exact ⟨rfl, Ext.trans (Ext.alloc _ _) E1.out⟩
end Go.Proofs.YtfelgolfebhmkaaDoor
