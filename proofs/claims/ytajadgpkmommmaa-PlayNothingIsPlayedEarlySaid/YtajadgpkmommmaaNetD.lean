/- Walks: Ends (both), awake, Below. Conditions as stated. -/
import Derived.Test.YtajadgpkmommmaaNetC
namespace Go.Proofs.Ytajadgpkmommmaa
open Go.RowKit

theorem ends_same {l : List (Int × Int)} (hz : trcF l = 0) {f b : Int} (hf : 0 ≤ f ∧ f ≤ 2000000000000) (hb : 1 ≤ b ∧ b ≤ 1000000000) : endsP l f b = endsR l f b := by
  obtain ⟨h0, _, hall, _⟩ := trcF_zero hz
  have hok := okT_all hz 0 (by omega)
  have hx := (trEl_zero (hall 0 h0)).2.2.1 rfl
  rw [List.drop_zero] at hok
  match l, h0 with
  | x :: r, _ =>
    have e : max f x.1 = f := by simp at hx; omega
    have := endsEq r x f b hok (by omega) hb.2 hf.2
    rw [e] at this
    exact this

set_option maxHeartbeats 1000000 in
theorem keyEnds_any {A : Option Addr} {n c : Nat} {l : List (Int × Int)} {w : World} (h : At w 2 e2 A n c l) (f b : Int) :
    Calls Try.prog 12 #[.slice A n c, .int .i64 f, .int .i64 b] w fun e w' => e = .returned (.tuple #[.int .i64 (endsV l f b), .int .i64 (endsF l f b)]) ∧ Ext w w' := by
  have HC := hide (fun W (hx : Ext w W) => keyTrace_any (h.ext hx))
  by_cases hz : trcF l = 0
  · by_cases hb : f < 0 ∨ 2000000000000 < f ∨ b < 0 ∨ 1000000000 < b
    · have hF : endsF l f b = 1 := by unfold endsF; rw [if_neg (by omega), if_pos hb]
      have hV : endsV l f b = 0 := by unfold endsV; rw [if_pos (by omega)]
      rw [hF, hV]
      rw [hz] at HC
      clear h hz hF hV
      by_cases h1 : f < 0 ∨ 2000000000000 < f
      · clear hb
        go_enter Try.func12, Try.ntmps12
        go_wp2_with (first | ((go_at_call 25; with_reducible refine (HC.out _ (Ext.refl _)).mono ?_); rintro e w1 ⟨rfl, e1⟩; skip) | ((go_at_call 24; with_reducible refine (out_no ?_ _).mono ?_); (focus omega); rintro e w' ⟨rfl, rfl⟩) | ((go_at_call 24; with_reducible refine (out_yes ?_ _).mono ?_); (focus omega); rintro e w' ⟨rfl, rfl⟩))
        go_ret2
        exact ⟨rfl, e1⟩
      · have h1' : 0 ≤ f ∧ f ≤ 2000000000000 := by omega
        have h2' : b < 0 ∨ 1000000000 < b := by omega
        clear hb h1
        go_enter Try.func12, Try.ntmps12
        go_wp2_with (first | ((go_at_call 25; with_reducible refine (HC.out _ (Ext.refl _)).mono ?_); rintro e w1 ⟨rfl, e1⟩; skip) | ((go_at_call 24; with_reducible refine (out_no ?_ _).mono ?_); (focus omega); rintro e w' ⟨rfl, rfl⟩) | ((go_at_call 24; with_reducible refine (out_yes ?_ _).mono ?_); (focus omega); rintro e w' ⟨rfl, rfl⟩))
        go_ret2
        exact ⟨rfl, e1⟩
    · have hF : endsF l f b = 0 := by unfold endsF; rw [if_neg (by omega), if_neg hb]
      have hV : endsV l f b = endsP l f b := by unfold endsV; rw [if_neg (by omega)]
      rw [hF, hV]
      have h1' : 0 ≤ f ∧ f ≤ 2000000000000 := by omega
      have h2' : 0 ≤ b ∧ b ≤ 1000000000 := by omega
      have HI := hide (fun W (hx : Ext w W) => keyEndsIn_any (h.ext hx) hz h1' h2')
      rw [hz] at HC
      clear h hz hF hV hb
      generalize endsP l f b = q at *
      go_enter Try.func12, Try.ntmps12
      go_wp2_with (first | ((go_at_call 25; with_reducible refine (HC.out _ (Ext.refl _)).mono ?_); rintro e w1 ⟨rfl, e1⟩; skip) | ((go_at_call 24; with_reducible refine (out_no ?_ _).mono ?_); (focus omega); rintro e w' ⟨rfl, rfl⟩) | ((go_at_call 24; with_reducible refine (out_yes ?_ _).mono ?_); (focus omega); rintro e w' ⟨rfl, rfl⟩))
      refine (HI.out _ e1).mono ?_
      rintro e w2 ⟨rfl, e2⟩
      have E2 := hide (Ext.trans e1 e2)
      clear e1 e2
      go_wp2_with fail
      go_ret2
      exact ⟨rfl, E2.out⟩
  · have hF : endsF l f b = trcF l := by unfold endsF; rw [if_pos hz]
    have hV : endsV l f b = 0 := by unfold endsV; rw [if_pos (by omega)]
    rw [hF, hV]
    have hb : (trcF l != 0) = true := by rw [bne_iff_ne]; exact hz
    generalize trcF l = r at *
    clear h hz hF hV
    go_enter Try.func12, Try.ntmps12
    go_wp2_with (first | ((go_at_call 25; with_reducible refine (HC.out _ (Ext.refl _)).mono ?_); rintro e w1 ⟨rfl, e1⟩; skip) | ((go_at_call 24; with_reducible refine (out_no ?_ _).mono ?_); (focus omega); rintro e w' ⟨rfl, rfl⟩) | ((go_at_call 24; with_reducible refine (out_yes ?_ _).mono ?_); (focus omega); rintro e w' ⟨rfl, rfl⟩))
    go_ret2
    exact ⟨rfl, e1⟩
/-- Below, as a number. -/
theorem below_any (x n : Int) (hn : 0 < n) (hn2 : n ≤ 4000000000000000000) (hx : -9223372036854775808 ≤ x ∧ x ≤ 9223372036854775807) (w : World) :
    Calls Try.prog 11 #[.int .i64 x, .int .i64 n] w fun e w' => e = .returned (.int .i64 (x % n)) ∧ w = w' := by
  have h1 := Int.tmod_lt_of_pos x hn
  have h2 : -n < x.tmod n := Int.lt_tmod_of_pos x hn
  have h3 : x % n = x.tmod n % n := by
    have := Int.tmod_add_mul_tdiv x n
    conv => lhs; rw [← this]
    exact Int.add_mul_emod_self_left _ _ _
  have hr : x % n = if x.tmod n < 0 then x.tmod n + n else x.tmod n := by
    rw [h3]
    split
    · rw [← Int.add_emod_right, Int.emod_eq_of_lt (by omega) (by omega)]
    · exact Int.emod_eq_of_lt (by omega) (by omega)
  rw [hr]
  clear hr h3
  have hn0 : n ≠ 0 := by omega
  obtain ⟨hx1, hx2⟩ := hx
  generalize hq : x.tmod n = r at *
  by_cases h0 : r < 0
  · rw [if_pos h0]
    go_enter Try.func11, Try.ntmps11
    go_wp2
    go_ret
    exact ⟨rfl, rfl⟩
  · rw [if_neg h0]
    go_enter Try.func11, Try.ntmps11
    go_wp2
    go_ret
    exact ⟨rfl, rfl⟩
end Go.Proofs.Ytajadgpkmommmaa
