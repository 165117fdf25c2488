/- Walks: numbers out of bytes, kinds, stop (reference). Conditions as stated. -/
import Derived.Test.YtoliplgadhdgbaaDoorBoxA
import Derived.Test.YtoliplgadhdgbaaDoorStep
import Derived.Deep.DeepCutAuto
namespace Go.Proofs.YtoliplgadhdgbaaDoor
open Go.RowKit
set_option maxRecDepth 100000 in
set_option maxHeartbeats 2000000 in
theorem isKindR_any (s : ByteArray) (w : World) (hs : s.size ≤ maxLen) :
    Calls Tryd.prog 19 #[.string s] w fun e w' => e = .returned (.bool (isKindB s.data.toList)) ∧ w = w' := by
  unfold maxLen at hs
  have hsz : s.data.toList.length = s.size := by simp
  have HY : Hid (s.data.toList.all kindC = true → isKindB s.data.toList = ((s.size : Int) == 4)) := hide (fun h => by unfold isKindB; rw [hsz, h]; simp; rw [Bool.eq_iff_iff]; simp; omega)
  have HN : Hid (s.data.toList.all kindC = false → isKindB s.data.toList = false) := hide (fun h => by unfold isKindB; rw [h]; simp)
  have HTK : Hid (s.data.toList.take s.size = s.data.toList) := hide (by rw [← hsz, List.take_length])
  clear hsz
  go_enter Tryd.func19, Tryd.ntmps19
  go_wp2_with fail
  go_loop [3] (fun ri => ∃ k : Nat, k ≤ s.size ∧ ri = .int .i64 k ∧ Hid ((s.data.toList.take k).all kindC = true)) (fun ri => s.size - (intOf ri).toNat)
  case atStart => exact ⟨0, by omega, rfl, hide (by simp)⟩
  case round =>
    obtain ⟨k, hk, rfl, HA⟩ := hrel
    by_cases hlt : k < s.size
    · have HS := hide (all_take_succ hlt)
      have HNO : Hid (kindC s[k] = false → isKindB s.data.toList = false) := hide (fun h => HN.out (all_no hlt h))
      have i1 : (k : Int) < (s.size : Int) := by omega
      by_cases hl : 97 ≤ s[k].toNat ∧ s[k].toNat ≤ 122
      · have HK : Hid ((s.data.toList.take (k + 1)).all kindC = true) := hide (by rw [HS.out, HA.out]; simp [kindC, hl])
        have g1 : (97 : Int) ≤ (s[k].toNat : Int) := by omega
        have g2 : (s[k].toNat : Int) ≤ 122 := by omega
        clear hl
        go_wp2_with fail
        exact ⟨⟨k + 1, by omega, by go_num, HK⟩, by simp [intOf]; omega⟩
      · by_cases hd : 48 ≤ s[k].toNat ∧ s[k].toNat ≤ 57
        · have HK : Hid ((s.data.toList.take (k + 1)).all kindC = true) := hide (by rw [HS.out, HA.out]; simp [kindC, hd])
          have g1 : ¬ (97 : Int) ≤ (s[k].toNat : Int) := by omega
          have g2 : (48 : Int) ≤ (s[k].toNat : Int) := by omega
          have g3 : (s[k].toNat : Int) ≤ 57 := by omega
          clear hl hd
          go_wp2_with fail
          exact ⟨⟨k + 1, by omega, by go_num, HK⟩, by simp [intOf]; omega⟩
        · have HV : Hid (isKindB s.data.toList = false) := hide (HNO.out (by simp [kindC]; omega))
          by_cases hc1 : 97 ≤ s[k].toNat
          · have g1 : (97 : Int) ≤ (s[k].toNat : Int) := by omega
            have g2 : ¬ (s[k].toNat : Int) ≤ 122 := by omega
            have g3 : (48 : Int) ≤ (s[k].toNat : Int) := by omega
            have g4 : ¬ (s[k].toNat : Int) ≤ 57 := by omega
            clear hd hl hc1
            go_wp2_with fail
            go_ret
            exact ⟨by rw [HV.out]; rfl, rfl⟩
          · have g1 : ¬ (97 : Int) ≤ (s[k].toNat : Int) := by omega
            by_cases hc2 : 48 ≤ s[k].toNat
            · have g3 : (48 : Int) ≤ (s[k].toNat : Int) := by omega
              have g4 : ¬ (s[k].toNat : Int) ≤ 57 := by omega
              clear hd hl hc1 hc2
              go_wp2_with fail
              go_ret
              exact ⟨by rw [HV.out]; rfl, rfl⟩
            · have g3 : ¬ (48 : Int) ≤ (s[k].toNat : Int) := by omega
              clear hd hl hc1 hc2
              go_wp2_with fail
              go_ret
              exact ⟨by rw [HV.out]; rfl, rfl⟩
    · obtain rfl : k = s.size := by omega
      have HV : Hid (isKindB s.data.toList = ((s.size : Int) == 4)) := hide (HY.out (by rw [← HTK.out]; exact HA.out))
      have i1 : ¬ (s.size : Int) < (s.size : Int) := by omega
      go_wp2_with fail
      go_ret
      exact ⟨by rw [HV.out]; rfl, rfl⟩
theorem nests_any (l : List UInt8) (w : World) : Calls Tryd.prog 33 #[.string ⟨l.toArray⟩] w fun e w' => e = .returned (.bool (hasKidsB l)) ∧ w = w' := by
  go_enter Tryd.func33, Tryd.ntmps33
  go_wp2_with fail
  all_goals
    go_ret
    exact ⟨ret_bool (by unfold hasKidsB kFilm kTrck kFrag; simp [*]), rfl⟩
/-- The number that the reference takes bytes for. -/
def numR (l : List UInt8) : Nat := if l.length = 8 ∧ 18014398509481984 ≤ numB (l.take 7) then 4611686018427387904 else numB l
theorem numR_small {l : List UInt8} (h : l.length < 8) : numR l = numB l := by unfold numR; rw [if_neg (by omega)]
theorem numR_cap {l : List UInt8} (h : l.length = 8) (n : Nat) (hn : n < 4611686018427387904) : (numR l ≤ n ↔ numB l ≤ n) ∧ ∀ m, m < 4611686018427387904 → (numR l = m ↔ numB l = m) := by
  unfold numR
  have e : l = l.take 7 ++ [l[7]] := by
    conv => lhs; rw [← List.take_append_drop 7 l]
    congr 1
    rw [List.drop_eq_getElem_cons (by omega), List.drop_of_length_le (by omega)]
  have e2 : numB l = numB (l.take 7) * 256 + (l[7]).toNat := by
    conv => lhs; rw [e]
    exact numB_snoc _ _
  by_cases hc : l.length = 8 ∧ 18014398509481984 ≤ numB (l.take 7)
  · rw [if_pos hc]; exact ⟨by omega, fun m hm => by omega⟩
  · rw [if_neg hc]; exact ⟨Iff.rfl, fun m hm => Iff.rfl⟩
end Go.Proofs.YtoliplgadhdgbaaDoor
