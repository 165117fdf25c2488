/- Walk: isName of the reference. No condition but that a string is no longer than a string can be. -/
import Derived.Test.YtfpmjaeehhegcaaNames
namespace Go.Proofs.Ytfpmjaeehhegcaa
open Go.RowKit

theorem letB_iff (c : UInt8) : letB c = true ↔ 97 ≤ (c.toNat : Int) ∧ (c.toNat : Int) ≤ 122 := by unfold letB; simp
theorem digB_iff (c : UInt8) : digB c = true ↔ 48 ≤ (c.toNat : Int) ∧ (c.toNat : Int) ≤ 57 := by unfold digB; simp
theorem okB_iff (c : UInt8) : okB c = true ↔ (97 ≤ (c.toNat : Int) ∧ (c.toNat : Int) ≤ 122) ∨ (48 ≤ (c.toNat : Int) ∧ (c.toNat : Int) ≤ 57) ∨ (c.toNat : Int) = 45 := by
  unfold okB; simp only [Bool.or_eq_true, letB_iff, digB_iff, decide_eq_true_eq]; omega
theorem size_list (s : ByteArray) : s.toList.length = s.size := by rw [ByteArray.toList_eq]; rfl
set_option maxRecDepth 100000 in
set_option maxHeartbeats 4000000 in
theorem refName_any (s : ByteArray) (hs : s.size ≤ maxLen) (w : World) : Calls Try.prog 32 #[.string s] w fun e w' => e = .returned (.bool (nameB s)) ∧ w = w' := by
  unfold maxLen at hs
  have hsl := size_list s
  by_cases h0 : s.size = 0
  · have HF := hide (nameB_no (s := s) (.inl h0))
    have e1 : s.toList = [] := List.eq_nil_of_length_eq_zero (by omega)
    have e2 : s.toList.isEmpty = true := by rw [e1]; rfl
    clear h0 hsl
    go_enter Try.func32, Try.ntmps32
    go_wp2_with fail
    go_ret
    exact ⟨ret_bool HF.out.symm, rfl⟩
  have e1 : ¬ s.toList = [] := by intro h; rw [h] at hsl; simp at hsl; omega
  have e2 : s.toList.isEmpty = false := by cases h : s.toList with | nil => exact absurd h e1 | cons _ _ => rfl
  have e3 : (!s.toList.isEmpty) = true := by rw [e2]; rfl
  clear hsl
  by_cases h4 : 40 < s.size
  · have HF := hide (nameB_no (s := s) (.inr h4))
    clear h0
    go_enter Try.func32, Try.ntmps32
    go_wp2_with fail
    go_ret
    exact ⟨ret_bool HF.out.symm, rfl⟩
  have hp : 0 < s.size := by omega
  have hlet := letB_iff (s[0]'hp)
  by_cases hb : 97 ≤ ((s[0]'hp).toNat : Int) ∧ ((s[0]'hp).toNat : Int) ≤ 122
  rotate_left
  · have HF := hide (nameB_0 hp (by simpa using fun h => hb (hlet.1 h)))
    have hc : ((s[0]'hp).toNat : Int) < 97 ∨ 122 < ((s[0]'hp).toNat : Int) := by omega
    clear hb h0 hlet
    rcases hc with hc | hc
    all_goals
      go_enter Try.func32, Try.ntmps32
      go_wp2_with fail
      go_ret
      exact ⟨ret_bool HF.out.symm, rfl⟩
  have HB := hide (hlet.2 hb)
  obtain ⟨hb1, hb2⟩ := hb
  clear h0 hlet
  go_enter Try.func32, Try.ntmps32
  go_wp2_with fail
  go_loop [24] (fun ri => ∃ k : Nat, k ≤ s.size ∧ ri = .int .i64 k ∧ Hid (∀ j (hj : j < s.size), j < k → okB (s[j]'hj) = true)) (fun ri => s.size - (intOf ri).toNat)
  case atStart => exact ⟨0, by omega, rfl, hide (fun j _ hj => by omega)⟩
  case round =>
    obtain ⟨k, hk, rfl, HA⟩ := hrel
    clear e1 e2 e3 hb1 hb2
    by_cases hlt : k < s.size
    · have hok := okB_iff (s[k]'hlt)
      have HN : Hid (okB (s[k]'hlt) = true → ∀ j (hj : j < s.size), j < k + 1 → okB (s[j]'hj) = true) := hide (fun hb j hj h2 => by
        rcases Nat.lt_succ_iff_lt_or_eq.1 h2 with h | h
        · exact HA.out j hj h
        · subst h; exact hb)
      by_cases ho : (97 ≤ ((s[k]'hlt).toNat : Int) ∧ ((s[k]'hlt).toNat : Int) ≤ 122) ∨ (48 ≤ ((s[k]'hlt).toNat : Int) ∧ ((s[k]'hlt).toNat : Int) ≤ 57) ∨ ((s[k]'hlt).toNat : Int) = 45
      · have HN2 := hide (HN.out (hok.2 ho))
        clear hok
        rcases ho with ⟨h1, h2⟩ | ⟨h1, h2⟩ | h3
        · go_wp2_with fail
          go_round
          case rel => exact ⟨k + 1, by omega, by go_num, HN2⟩
          case measure => simp [intOf]; omega
        · go_wp2_with fail
          go_round
          case rel => exact ⟨k + 1, by omega, by go_num, HN2⟩
          case measure => simp [intOf]; omega
        · have g3 : (((s[k]'hlt).toNat : Int) != 45) = false := by simp [h3]
          have h1 : ((s[k]'hlt).toNat : Int) ≤ 45 := by omega
          have h2 : 45 ≤ ((s[k]'hlt).toNat : Int) := by omega
          clear h3
          go_wp2_with fail
          go_round
          case rel => exact ⟨k + 1, by omega, by go_num, HN2⟩
          case measure => simp [intOf]; omega
      · have HF := hide (nameB_at (s := s) hlt (by simpa using fun h => ho (hok.1 h)))
        have g3 : (((s[k]'hlt).toNat : Int) != 45) = true := by rw [bne_iff_ne]; omega
        have ha : ((s[k]'hlt).toNat : Int) < 48 ∨ (57 < ((s[k]'hlt).toNat : Int) ∧ ((s[k]'hlt).toNat : Int) < 97) ∨ 122 < ((s[k]'hlt).toNat : Int) := by omega
        clear hok ho
        rcases ha with h1 | ⟨h1, h2⟩ | h1
        all_goals
          go_wp2_with fail
          go_ret
          exact ⟨ret_bool HF.out.symm, rfl⟩
    · have HF := hide (nameB_yes hp (by omega) HB.out (fun j hj => HA.out j hj (by omega)))
      go_wp2_with fail
      go_ret
      exact ⟨ret_bool HF.out.symm, rfl⟩
end Go.Proofs.Ytfpmjaeehhegcaa
