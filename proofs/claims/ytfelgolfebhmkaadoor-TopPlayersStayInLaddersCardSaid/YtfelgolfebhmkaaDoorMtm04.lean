/- Names: which strings are names, and walks of the functions that ask. No condition but that a string is no longer than a string can be. -/
import Derived.Test.YtfelgolfebhmkaaDoorMtm00
import Derived.Test.YtfelgolfebhmkaaDoorProg
namespace Go.Proofs.YtfelgolfebhmkaaDoor
open Go.RowKit
def letB (c : UInt8) : Bool := decide (97 ≤ (c.toNat : Int) ∧ (c.toNat : Int) ≤ 122)
def digB (c : UInt8) : Bool := decide (48 ≤ (c.toNat : Int) ∧ (c.toNat : Int) ≤ 57)
def okB (c : UInt8) : Bool := letB c || digB c || decide ((c.toNat : Int) = 45)
def nameB (s : ByteArray) : Bool := if h : 0 < s.size ∧ s.size ≤ 40 then letB (s[0]'h.1) && (List.range s.size).all (fun k => if hk : k < s.size then okB (s[k]'hk) else true) else false
theorem nameB_no {s : ByteArray} (h : s.size = 0 ∨ 40 < s.size) : nameB s = false := by unfold nameB; rw [dif_neg (by omega)]
theorem nameB_0 {s : ByteArray} (h : 0 < s.size) (hb : letB (s[0]'h) = false) : nameB s = false := by
  unfold nameB
  by_cases h1 : 0 < s.size ∧ s.size ≤ 40
  · rw [dif_pos h1, hb]; rfl
  · rw [dif_neg h1]
theorem nameB_at {s : ByteArray} {k : Nat} (h : k < s.size) (hb : okB (s[k]'h) = false) : nameB s = false := by
  unfold nameB
  by_cases h1 : 0 < s.size ∧ s.size ≤ 40
  · rw [dif_pos h1, Bool.and_eq_false_iff]
    right
    rw [List.all_eq_false]
    exact ⟨k, by simpa using h, by rw [dif_pos h, hb]; simp⟩
  · rw [dif_neg h1]
theorem nameB_yes {s : ByteArray} (h : 0 < s.size) (h1 : s.size ≤ 40) (h0 : letB (s[0]'h) = true) (ha : ∀ k (hk : k < s.size), okB (s[k]'hk) = true) : nameB s = true := by
  unfold nameB
  rw [dif_pos ⟨h, h1⟩, h0, Bool.true_and, List.all_eq_true]
  intro k hk
  rw [dif_pos (by simpa using hk)]
  exact ha k _
theorem letter_any (c : UInt8) (w : World) : Calls Tryd.prog 55 #[.int .u8 (c.toNat : Int)] w fun e w' => e = .returned (.bool (letB c)) ∧ w = w' := by
  unfold letB
  generalize (c.toNat : Int) = x
  by_cases h1 : 97 ≤ x
  · go_enter Tryd.func55, Tryd.ntmps55
    go_wp2
    go_ret
    exact ⟨ret_bool (by simp [h1]), rfl⟩
  · go_enter Tryd.func55, Tryd.ntmps55
    go_wp2
    go_ret
    exact ⟨ret_bool (by simp; omega), rfl⟩
theorem digit_any (c : UInt8) (w : World) : Calls Tryd.prog 56 #[.int .u8 (c.toNat : Int)] w fun e w' => e = .returned (.bool (digB c)) ∧ w = w' := by
  unfold digB
  generalize (c.toNat : Int) = x
  by_cases h1 : 48 ≤ x
  · go_enter Tryd.func56, Tryd.ntmps56
    go_wp2
    go_ret
    exact ⟨ret_bool (by simp [h1]), rfl⟩
  · go_enter Tryd.func56, Tryd.ntmps56
    go_wp2
    go_ret
    exact ⟨ret_bool (by simp; omega), rfl⟩
set_option maxRecDepth 100000 in
set_option maxHeartbeats 2000000 in
theorem isName_any (s : ByteArray) (hs : s.size ≤ maxLen) (w : World) : Calls Tryd.prog 39 #[.string s] w fun e w' => e = .returned (.bool (nameB s)) ∧ w = w' := by
  unfold maxLen at hs
  by_cases h0 : s.size = 0
  · have HF := hide (nameB_no (s := s) (.inl h0))
    have e0 : ((s.size : Int) == 0) = true := by simp [h0]
    clear h0
    go_enter Tryd.func39, Tryd.ntmps39
    go_wp2_with fail
    go_ret
    exact ⟨ret_bool HF.out.symm, rfl⟩
  have e0 : ((s.size : Int) == 0) = false := by rw [beq_eq_false_iff_ne]; omega
  by_cases h4 : 40 < s.size
  · have HF := hide (nameB_no (s := s) (.inr h4))
    clear h0
    go_enter Tryd.func39, Tryd.ntmps39
    go_wp2_with fail
    go_ret
    exact ⟨ret_bool HF.out.symm, rfl⟩
  have hp : 0 < s.size := by omega
  have HL := hide (fun (W : World) => letter_any (s[0]'hp) W)
  cases hb : letB (s[0]'hp) with
  | false =>
    have HF := hide (nameB_0 hp hb)
    rw [hb] at HL
    clear hb h0
    go_enter Tryd.func39, Tryd.ntmps39
    go_wp2_with fail
    refine (HL.out _).mono ?_
    rintro e w' ⟨rfl, rfl⟩
    go_wp2_with fail
    go_ret
    exact ⟨ret_bool HF.out.symm, rfl⟩
  | true =>
    have HB := hide hb
    rw [hb] at HL
    clear hb h0
    go_enter Tryd.func39, Tryd.ntmps39
    go_wp2_with fail
    refine (HL.out _).mono ?_
    rintro e w' ⟨rfl, rfl⟩
    go_wp2_with fail
    go_loop [20] (fun ri => ∃ k : Nat, k ≤ s.size ∧ ri = .int .i64 k ∧ Hid (∀ j (hj : j < s.size), j < k → okB (s[j]'hj) = true)) (fun ri => s.size - (intOf ri).toNat)
    case atStart => exact ⟨0, by omega, rfl, hide (fun j _ hj => by omega)⟩
    case round =>
      obtain ⟨k, hk, rfl, HA⟩ := hrel
      by_cases hlt : k < s.size
      · have HC := hide (fun (W : World) => letter_any (s[k]'hlt) W)
        have HD := hide (fun (W : World) => digit_any (s[k]'hlt) W)
        have HNo := hide (fun hb => nameB_at (s := s) hlt hb)
        have HN : Hid (okB (s[k]'hlt) = true → ∀ j (hj : j < s.size), j < k + 1 → okB (s[j]'hj) = true) := hide (fun hb j hj h2 => by
          rcases Nat.lt_succ_iff_lt_or_eq.1 h2 with h | h
          · exact HA.out j hj h
          · subst h; exact hb)
        unfold okB at HNo HN
        cases b1 : letB (s[k]'hlt) with
        | true =>
          have HN2 := hide (HN.out (by simp [b1]))
          rw [b1] at HC
          clear b1
          go_wp2_with fail
          refine (HC.out _).mono ?_
          rintro e w' ⟨rfl, rfl⟩
          go_wp2_with fail
          go_round
          case rel => exact ⟨k + 1, by omega, by go_num, HN2⟩
          case measure => simp [intOf]; omega
        | false =>
          cases b2 : digB (s[k]'hlt) with
          | true =>
            have HN2 := hide (HN.out (by simp [b2]))
            rw [b1] at HC
            rw [b2] at HD
            clear b1 b2
            go_wp2_with fail
            refine (HC.out _).mono ?_
            rintro e w' ⟨rfl, rfl⟩
            go_wp2_with fail
            refine (HD.out _).mono ?_
            rintro e w' ⟨rfl, rfl⟩
            go_wp2_with fail
            go_round
            case rel => exact ⟨k + 1, by omega, by go_num, HN2⟩
            case measure => simp [intOf]; omega
          | false =>
            by_cases b3 : ((s[k]'hlt).toNat : Int) = 45
            · have HN2 := hide (HN.out (by simp [b3]))
              have g3 : (((s[k]'hlt).toNat : Int) != 45) = false := by simp [b3]
              rw [b1] at HC
              rw [b2] at HD
              clear b1 b2 b3
              go_wp2_with fail
              refine (HC.out _).mono ?_
              rintro e w' ⟨rfl, rfl⟩
              go_wp2_with fail
              refine (HD.out _).mono ?_
              rintro e w' ⟨rfl, rfl⟩
              go_wp2_with fail
              go_round
              case rel => exact ⟨k + 1, by omega, by go_num, HN2⟩
              case measure => simp [intOf]; omega
            · have HF := hide (HNo.out (by simp [b1, b2, b3]))
              have g3 : (((s[k]'hlt).toNat : Int) != 45) = true := by simp [b3]
              rw [b1] at HC
              rw [b2] at HD
              clear b1 b2 b3
              go_wp2_with fail
              refine (HC.out _).mono ?_
              rintro e w' ⟨rfl, rfl⟩
              go_wp2_with fail
              refine (HD.out _).mono ?_
              rintro e w' ⟨rfl, rfl⟩
              go_wp2_with fail
              go_ret
              exact ⟨ret_bool HF.out.symm, rfl⟩
      · have HF := hide (nameB_yes hp (by omega) HB.out (fun j hj => HA.out j hj (by omega)))
        go_wp2_with fail
        go_ret
        exact ⟨ret_bool HF.out.symm, rfl⟩
end Go.Proofs.YtfelgolfebhmkaaDoor
