/- Walks: endOf, came (both), Came (both). Conditions as stated. -/
import Derived.Test.YtfelgolfebhmkaaDoorMtm16
namespace Go.Proofs.YtfelgolfebhmkaaDoor
open Go.RowKit
theorem endOf_any {A : Option Addr} {n c k : Nat} {l : List (Int × Int)} {w : World} (h : At w 2 e2 A n c l) (hn : n ≤ 500) (hk : k < n) :
    Calls Tryd.prog 50 #[.slice A n c, .int .i64 (k : Int)] w fun e w' => e = .returned (.int .i64 (hdT (l.drop (k + 1)))) ∧ w = w' := by
  have hl := h.len
  rw [hdT_drop]
  by_cases h1 : k + 1 < n
  · rw [if_pos (by omega)]
    obtain ⟨b, off, rfl, _⟩ := h.addr (by omega)
    have a1 := (h.pair h1).1
    generalize (l.getD (k + 1) (0, 0)).1 = y at *
    clear hl h
    have i1 : (k : Int) + 1 < (n : Int) := by omega
    go_enter Tryd.func50, Tryd.ntmps50
    go_wp2_with fail
    go_ret
    exact ⟨rfl, rfl⟩
  · rw [if_neg (by omega)]
    have i1 : ¬ (k : Int) + 1 < (n : Int) := by omega
    clear hl h
    go_enter Tryd.func50, Tryd.ntmps50
    go_wp2_with fail
    go_ret
    exact ⟨rfl, rfl⟩
theorem camel_bd {l : List (Int × Int)} (h : trcF l = 0) {f t : Int} (hf : 0 ≤ f) (hft : f ≤ t) (ht : t ≤ 2000000000000) (k : Nat) (hk : k ≤ l.length) : 0 ≤ camel (l.drop k) f t ∧ camel (l.drop k) f t ≤ 2000000000000000000 := by
  have h1 := okT_all h k hk
  have h2 := camel_nonneg _ f t h1
  have h3 := camel_le _ f t h1 hf
  exact ⟨h2, by omega⟩
theorem w64_in {x : Int} (h0 : -9223372036854775808 ≤ x) (h1 : x ≤ 9223372036854775807) : wrap64 x = x := by unfold wrap64; omega
theorem hdT_bd {l : List (Int × Int)} (h : trcF l = 0) (k : Nat) : 0 ≤ hdT (l.drop k) ∧ hdT (l.drop k) ≤ 1152921504606846976 := by
  obtain ⟨_, _, hall, _⟩ := trcF_zero h
  rw [hdT_drop]
  split
  · have := (trEl_zero (hall k (by assumption))).1
    omega
  · simp only [farI]; omega
set_option maxRecDepth 100000 in
set_option maxHeartbeats 4000000 in
theorem keyCameIn_any {A : Option Addr} {n c : Nat} {l : List (Int × Int)} {w : World} (h : At w 2 e2 A n c l) (hz : trcF l = 0) {f t : Int} (hf : 0 ≤ f) (hft : f ≤ t) (ht : t ≤ 2000000000000) :
    Calls Tryd.prog 37 #[.slice A n c, .int .i64 f, .int .i64 t] w fun e w' => e = .returned (.int .i64 (camel l f t)) ∧ Ext w w' := by
  have hb := h.bound
  have hl := hide h.len
  have H := hide h
  obtain ⟨hn0, hn5, hall, _⟩ := trcF_zero hz
  have hn : n ≤ 500 := by have := hl.out; omega
  have HALL := hide hall
  have HZ := hide hz
  clear h hall hn0 hn5 hz
  go_enter Tryd.func37, Tryd.ntmps37
  go_wp2_with fail
  go_loopw [7, 12] (fun rn ri wr => ∃ (k : Nat) (s : Int), k ≤ n ∧ ri = .int .i64 k ∧ rn = .int .i64 s ∧ 0 ≤ s ∧ Hid (s + camel (l.drop k) f t = camel l f t) ∧ Hid (Ext w wr)) (fun _ ri _ => n - (intOf ri).toNat)
  case atStart => exact ⟨0, 0, by omega, rfl, rfl, by omega, hide (by simp), hide (Ext.refl _)⟩
  case round =>
    obtain ⟨k, s, hk, rfl, rfl, hs0, HS, HX⟩ := hrel
    have hlen := hl.out
    obtain ⟨t0, t1⟩ := camel_bd HZ.out hf hft ht 0 (by omega)
    rw [List.drop_zero] at t0 t1
    by_cases hlt : k < n
    · obtain ⟨b, off, rfl, _⟩ := H.out.addr (by omega)
      obtain ⟨a1, a2⟩ := (H.out.ext HX.out).pair hlt
      obtain ⟨e1, e2, _, _⟩ := trEl_zero (HALL.out k (by omega))
      have hd := HS.out
      rw [drop_cons l k (0, 0) (by omega), camel_cons] at hd
      obtain ⟨d0, d1⟩ := camel_bd HZ.out hf hft ht (k + 1) (by omega)
      generalize (l.getD k (0, 0)) = y at *
      obtain ⟨y0, y1⟩ := y
      simp only at a1 a2 e1 e2 hd
      have HE := hide (fun (W : World) (hx : Ext wr W) => endOf_any ((H.out.ext HX.out).ext hx) hn hlt)
      have hE := hdT_bd HZ.out (k + 1)
      generalize hdT (l.drop (k + 1)) = E at *
      have m0 : 0 ≤ y1 * max 0 (min t E - max f y0) := Int.mul_nonneg (by omega) (by omega)
      have HD : Hid (s + y1 * max 0 (min t E - max f y0) + camel (l.drop (k + 1)) f t = camel l f t) := hide (by omega)
      have m1 : y1 * max 0 (min t E - max f y0) ≤ 2000000000000000000 := by omega
      have m2 : s + y1 * max 0 (min t E - max f y0) ≤ 2000000000000000000 := by omega
      have m3 : 0 ≤ s + y1 * max 0 (min t E - max f y0) := by omega
      have HW : Hid (wrap64 (s + wrap64 (y1 * max 0 (wrap64 (min t E - max f y0)))) = s + y1 * max 0 (min t E - max f y0)) := hide (by
        rw [w64_in (x := min t E - max f y0) (by omega) (by omega), w64_in (x := y1 * max 0 (min t E - max f y0)) (by omega) (by omega), w64_in (by omega) (by omega)])
      clear hd HS hlen
      go_wp2_with fail
      go_quiet ((go_at_call 50; exact quiet_left (HE.out _ (by repeat' (first | (with_reducible first | exact Below.refl _ _ | assumption | refine below_drewN ?_ _ | refine Below.drew ?_ | refine ext_alloc ?_ _ | refine Below.setCell ?_ ?_ _) | go_size)))))
      go_wp2_with fail
      go_roundw
      case rel =>
        first
          | exact ⟨k + 1, _, by omega, by go_num, int_val (by first | rfl | exact HW.out), m3, HD, Ext.trans HX.out (by repeat' (first | (with_reducible first | exact Below.refl _ _ | assumption | refine below_drewN ?_ _ | refine Below.drew ?_ | refine ext_alloc ?_ _ | refine Below.setCell ?_ ?_ _) | go_size))⟩
          | ((repeat apply Exists.intro); exact ⟨⟨k + 1, _, by omega, by go_num, int_val (by first | rfl | exact HW.out), m3, HD, Ext.trans HX.out (by repeat' (first | (with_reducible first | exact Below.refl _ _ | assumption | refine below_drewN ?_ _ | refine Below.drew ?_ | refine ext_alloc ?_ _ | refine Below.setCell ?_ ?_ _) | go_size))⟩, rfl⟩)
      case measure => simp [intOf]; omega
    · have HF : Hid (s = camel l f t) := hide (by
        have := HS.out
        rw [List.drop_of_length_le (by omega)] at this
        simpa [camel] using this)
      clear hlen
      go_wp2_with fail
      go_ret
      exact ⟨ret_int HF.out, HX.out⟩
set_option maxHeartbeats 1000000 in
theorem keyCame_any {A : Option Addr} {n c : Nat} {l : List (Int × Int)} {w : World} (h : At w 2 e2 A n c l) (f t : Int) :
    Calls Tryd.prog 16 #[.slice A n c, .int .i64 f, .int .i64 t] w fun e w' => e = .returned (.tuple #[.int .i64 (cameV l f t), .int .i64 (cameF l f t)]) ∧ Ext w w' := by
  have HC := hide (fun W (hx : Ext w W) => keyTrace_any (h.ext hx))
  by_cases hz : trcF l = 0
  · by_cases hb : f < 0 ∨ t < f ∨ 2000000000000 < t
    · have hF : cameF l f t = 1 := by unfold cameF; rw [if_neg (by omega), if_pos hb]
      have hV : cameV l f t = 0 := by unfold cameV; rw [if_pos (by omega)]
      rw [hF, hV]
      rw [hz] at HC
      clear h hz hF hV
      by_cases h1 : f < 0
      · clear hb
        go_enter Tryd.func16, Tryd.ntmps16
        go_wp2_with (first | ((go_at_call 27; with_reducible refine (HC.out _ (Ext.refl _)).mono ?_); rintro e w1 ⟨rfl, e1⟩; skip) | ((go_at_call 24; with_reducible refine (out_no ?_ _).mono ?_); (focus omega); rintro e w' ⟨rfl, rfl⟩) | ((go_at_call 24; with_reducible refine (out_yes ?_ _).mono ?_); (focus omega); rintro e w' ⟨rfl, rfl⟩))
        go_ret2
        exact ⟨rfl, e1⟩
      · by_cases h2 : t < f
        · have h1' : 0 ≤ f := by omega
          clear hb h1
          go_enter Tryd.func16, Tryd.ntmps16
          go_wp2_with (first | ((go_at_call 27; with_reducible refine (HC.out _ (Ext.refl _)).mono ?_); rintro e w1 ⟨rfl, e1⟩; skip) | ((go_at_call 24; with_reducible refine (out_no ?_ _).mono ?_); (focus omega); rintro e w' ⟨rfl, rfl⟩) | ((go_at_call 24; with_reducible refine (out_yes ?_ _).mono ?_); (focus omega); rintro e w' ⟨rfl, rfl⟩))
          go_ret2
          exact ⟨rfl, e1⟩
        · have h1' : 0 ≤ f := by omega
          have h2' : f ≤ t := by omega
          have h3 : 2000000000000 < t := by omega
          clear hb h1 h2
          go_enter Tryd.func16, Tryd.ntmps16
          go_wp2_with (first | ((go_at_call 27; with_reducible refine (HC.out _ (Ext.refl _)).mono ?_); rintro e w1 ⟨rfl, e1⟩; skip) | ((go_at_call 24; with_reducible refine (out_no ?_ _).mono ?_); (focus omega); rintro e w' ⟨rfl, rfl⟩) | ((go_at_call 24; with_reducible refine (out_yes ?_ _).mono ?_); (focus omega); rintro e w' ⟨rfl, rfl⟩))
          go_ret2
          exact ⟨rfl, e1⟩
    · have hF : cameF l f t = 0 := by unfold cameF; rw [if_neg (by omega), if_neg hb]
      have hV : cameV l f t = camel l f t := by unfold cameV; rw [if_neg (by omega)]
      rw [hF, hV]
      have h1' : 0 ≤ f := by omega
      have h2' : f ≤ t := by omega
      have h3' : t ≤ 2000000000000 := by omega
      have HI := hide (fun W (hx : Ext w W) => keyCameIn_any (h.ext hx) hz h1' h2' h3')
      rw [hz] at HC
      clear h hz hF hV hb
      generalize camel l f t = q at *
      go_enter Tryd.func16, Tryd.ntmps16
      go_wp2_with (first | ((go_at_call 27; with_reducible refine (HC.out _ (Ext.refl _)).mono ?_); rintro e w1 ⟨rfl, e1⟩; skip) | ((go_at_call 24; with_reducible refine (out_no ?_ _).mono ?_); (focus omega); rintro e w' ⟨rfl, rfl⟩) | ((go_at_call 24; with_reducible refine (out_yes ?_ _).mono ?_); (focus omega); rintro e w' ⟨rfl, rfl⟩))
      refine (HI.out _ e1).mono ?_
      rintro e w2 ⟨rfl, e2⟩
      have E2 := hide (Ext.trans e1 e2)
      clear e1 e2
      go_wp2_with fail
      go_ret2
      exact ⟨rfl, E2.out⟩
  · have hF : cameF l f t = trcF l := by unfold cameF; rw [if_pos hz]
    have hV : cameV l f t = 0 := by unfold cameV; rw [if_pos (by omega)]
    rw [hF, hV]
    have hb : (trcF l != 0) = true := by rw [bne_iff_ne]; exact hz
    generalize trcF l = r at *
    clear h hz hF hV
    go_enter Tryd.func16, Tryd.ntmps16
    go_wp2_with (first | ((go_at_call 27; with_reducible refine (HC.out _ (Ext.refl _)).mono ?_); rintro e w1 ⟨rfl, e1⟩; skip) | ((go_at_call 24; with_reducible refine (out_no ?_ _).mono ?_); (focus omega); rintro e w' ⟨rfl, rfl⟩) | ((go_at_call 24; with_reducible refine (out_yes ?_ _).mono ?_); (focus omega); rintro e w' ⟨rfl, rfl⟩))
    go_ret2
    exact ⟨rfl, e1⟩
end Go.Proofs.YtfelgolfebhmkaaDoor
