/- Walks: runsFault, counted, chunksFault, CheckTable (program). Conditions as stated. -/
import Derived.Test.YtkdmfkpkelnheaaTabP
import Derived.Test.YtkdmfkpkelnheaaSmpA
import Derived.Deep.DeepCutAuto
namespace Go.Proofs.Ytkdmfkpkelnheaa
open Go.RowKit
theorem At.pairK {w : World} {b off n c : Nat} {l : List (Int × Int)} (h : At w 2 e2 (some ⟨b, off, none⟩) n c l) {k : Nat} (hk : k < n) :
    w.cell? ⟨b, off + k * 2, none⟩ = some (.int .i64 (l.getD k (0, 0)).1) ∧ w.cell? ⟨b, off + k * 2 + 1, none⟩ = some (.int .i64 (l.getD k (0, 0)).2) := h.pair hk
set_option linter.unusedVariables false in
set_option maxRecDepth 100000 in
set_option maxHeartbeats 4000000 in
theorem runsFault_any {A : Option Addr} {n c : Nat} {l : List (Int × Int)} {least : Int} {w : World} (h : At w 2 e2 A n c l) :
    Calls Try.prog 36 #[.slice A n c, .int .i64 least] w fun e w' => e = .returned (.int .i64 (runsF least l)) ∧ Ext w w' := by
  have hb := h.bound
  have H := hide h
  have HL := hide h.len
  have HBAD := hide (fun (k : Nat) (hk : k < n) (ha : ∀ j, j < k → rnEl least l j = 0) (hn : rnEl least l k ≠ 0) => (firstF_at ha hn (n := l.length) (by rw [h.len]; exact hk) : firstF (rnEl least l) l.length = rnEl least l k))
  have HOK := hide (fun (ha : ∀ j, j < n → rnEl least l j = 0) => (firstF_zero (fun j hj => ha j (by rw [← h.len]; exact hj)) : firstF (rnEl least l) l.length = 0))
  clear h
  go_enter Try.func36, Try.ntmps36
  go_wp2_with fail
  go_loopw [9] (fun ri wr => ∃ k : Nat, k ≤ n ∧ ri = .int .i64 k ∧ Hid (∀ j, j < k → rnEl least l j = 0) ∧ Hid (Ext w wr)) (fun ri _ => n - (intOf ri).toNat)
  case atStart => exact ⟨0, by omega, rfl, hide (fun j hj => by omega), hide (Ext.refl _)⟩
  case round =>
    obtain ⟨k, hk, rfl, HA, HX⟩ := hrel
    by_cases hlt : k < n
    · obtain ⟨b, off, rfl, _⟩ := H.out.addr (by omega)
      obtain ⟨a0, a1⟩ := (H.out.ext HX.out).pair hlt
      have hel : rnEl least l k = if badR least (l.getD k (0, 0)) = true then 1 else 0 := rfl
      have hbr : badR least (l.getD k (0, 0)) = (decide ((l.getD k (0, 0)).1 < 1 ∨ 5000 < (l.getD k (0, 0)).1) || decide ((l.getD k (0, 0)).2 < least ∨ 1000000000 < (l.getD k (0, 0)).2)) := rfl
      have HS : Hid (rnEl least l k = 0 → ∀ j, j < k + 1 → rnEl least l j = 0) := hide (fun h0 j hj => by
        rcases Nat.lt_succ_iff_lt_or_eq.1 hj with h | h
        · exact HA.out j h
        · rw [h]; exact h0)
      have HB := hide (HBAD.out k hlt HA.out)
      generalize (l.getD k (0, 0)).1 = x at *
      generalize (l.getD k (0, 0)).2 = y at *
      have i1 : (k : Int) < (n : Int) := by omega
      have i0 : (0 : Int) ≤ (k : Int) := by omega
      have i8 : IntKind.i64.wrap ((k : Int) + 1) = (k : Int) + 1 := by rw [IntKind.wrap_i64]; omega
      by_cases hx : x < 1 ∨ 5000 < x
      · have HE : Hid (runsF least l = 1) := hide (by
          have h1 : rnEl least l k = 1 := by rw [hel, hbr, if_pos]; simp [hx]
          have := HB.out (by omega)
          unfold runsF; omega)
        clear hel hbr
        go_wp2_with ((go_at_call 21; with_reducible refine (out_yes hx _).mono ?_); rintro e w' ⟨rfl, rfl⟩)
        go_ret
        exact ⟨ret_int HE.out.symm, Ext.trans HX.out (by repeat' (first | (with_reducible exact Below.refl _ _) | (with_reducible assumption) | (with_reducible refine below_drewN ?_ _) | (with_reducible refine Below.drew ?_) | (with_reducible refine ext_alloc ?_ _) | (with_reducible refine Below.setCell ?_ ?_ _) | go_size))⟩
      · have hx2 : 1 ≤ x ∧ x ≤ 5000 := by omega
        by_cases hy : y < least ∨ 1000000000 < y
        · have HE : Hid (runsF least l = 1) := hide (by
            have h1 : rnEl least l k = 1 := by rw [hel, hbr, if_pos]; simp [hy]
            have := HB.out (by omega)
            unfold runsF; omega)
          clear hel hbr hx
          go_wp2_with (first | ((go_at_call 21; with_reducible refine (out_no hx2 _).mono ?_); rintro e w' ⟨rfl, rfl⟩) | ((go_at_call 21; with_reducible refine (out_yes hy _).mono ?_); rintro e w' ⟨rfl, rfl⟩))
          go_ret
          exact ⟨ret_int HE.out.symm, Ext.trans HX.out (by repeat' (first | (with_reducible exact Below.refl _ _) | (with_reducible assumption) | (with_reducible refine below_drewN ?_ _) | (with_reducible refine Below.drew ?_) | (with_reducible refine ext_alloc ?_ _) | (with_reducible refine Below.setCell ?_ ?_ _) | go_size))⟩
        · have hy2 : least ≤ y ∧ y ≤ 1000000000 := by omega
          have HE : Hid (rnEl least l k = 0) := hide (by rw [hel, hbr, if_neg]; simp [hx, hy])
          clear hel hbr hx hy
          go_wp2_with (first | ((go_at_call 21; with_reducible refine (out_no hx2 _).mono ?_); rintro e w' ⟨rfl, rfl⟩) | ((go_at_call 21; with_reducible refine (out_no hy2 _).mono ?_); rintro e w' ⟨rfl, rfl⟩))
          exact ⟨⟨k + 1, by omega, by go_num, hide (HS.out HE.out), hide (Ext.trans HX.out (by repeat' (first | (with_reducible exact Below.refl _ _) | (with_reducible assumption) | (with_reducible refine below_drewN ?_ _) | (with_reducible refine Below.drew ?_) | (with_reducible refine ext_alloc ?_ _) | (with_reducible refine Below.setCell ?_ ?_ _) | go_size)))⟩, by simp [intOf]; omega⟩
    · obtain rfl : k = n := by omega
      have HE : Hid (runsF least l = 0) := hide (HOK.out HA.out)
      clear hlt
      go_wp2_with fail
      go_ret
      exact ⟨ret_int HE.out.symm, HX.out⟩
set_option linter.unusedVariables false in
set_option maxRecDepth 100000 in
set_option maxHeartbeats 4000000 in
theorem counted_any {A : Option Addr} {n c : Nat} {l : List (Int × Int)} {least : Int} {w : World} (h : At w 2 e2 A n c l) (hr : runsF least l = 0) (hn : n ≤ 17592186044416) :
    Calls Try.prog 37 #[.slice A n c] w fun e w' => e = .returned (.int .i64 (cntA l)) ∧ Ext w w' := by
  have hb := h.bound
  have H := hide h
  have HL := hide h.len
  have HBD := hide (fun (k : Nat) (hk : k ≤ n) => cntI_bd hr k (by rw [h.len]; exact hk))
  clear h hr
  go_enter Try.func37, Try.ntmps37
  go_wp2_with fail
  go_loopw [3, 8] (fun rs ri wr => ∃ k : Nat, k ≤ n ∧ ri = .int .i64 k ∧ rs = .int .i64 (cntI l k) ∧ Hid (Ext w wr)) (fun _ ri _ => n - (intOf ri).toNat)
  case atStart => exact ⟨0, by omega, rfl, rfl, hide (Ext.refl _)⟩
  case round =>
    obtain ⟨k, hk, rfl, rfl, HX⟩ := hrel
    by_cases hlt : k < n
    · obtain ⟨b, off, rfl, _⟩ := H.out.addr (by omega)
      obtain ⟨a0, a1⟩ := (H.out.ext HX.out).pair hlt
      have hs : cntI l (k + 1) = cntI l k + (l.getD k (0, 0)).1 := rfl
      have hb1 := HBD.out (k + 1) (by omega)
      obtain ⟨C1, hC1⟩ : ∃ C1, C1 = cntI l (k + 1) := ⟨_, rfl⟩
      rw [← hC1] at hs hb1
      have HC1 := hide hC1
      clear hC1
      generalize cntI l k = C0 at *
      generalize (l.getD k (0, 0)).1 = x at *
      generalize (l.getD k (0, 0)).2 = y at *
      have i1 : (k : Int) < (n : Int) := by omega
      have i0 : (0 : Int) ≤ (k : Int) := by omega
      have i8 : IntKind.i64.wrap ((k : Int) + 1) = (k : Int) + 1 := by rw [IntKind.wrap_i64]; omega
      have u1 : IntKind.i64.wrap (C0 + x) = C1 := by rw [IntKind.wrap_i64]; omega
      clear hs hb1
      go_wp2_with fail
      exact ⟨⟨k + 1, by omega, by go_num, by rw [HC1.out], hide (Ext.trans HX.out (by repeat' (first | (with_reducible exact Below.refl _ _) | (with_reducible assumption) | (with_reducible refine below_drewN ?_ _) | (with_reducible refine Below.drew ?_) | (with_reducible refine ext_alloc ?_ _) | (with_reducible refine Below.setCell ?_ ?_ _) | go_size)))⟩, by simp [intOf]; omega⟩
    · obtain rfl : k = n := by omega
      have HE : Hid (cntA l = cntI l k) := hide (by unfold cntA; rw [HL.out])
      clear hlt
      go_wp2_with fail
      go_ret
      exact ⟨ret_int HE.out.symm, HX.out⟩
end Go.Proofs.Ytkdmfkpkelnheaa
