/- Walks: numbers out of bytes, kinds (program). Conditions as stated. -/
import Derived.Test.YtoliplgadhdgbaaDoorBoxP
import Derived.Test.YtoliplgadhdgbaaDoorOut
import Derived.Test.YtoliplgadhdgbaaDoorTw
namespace Go.Proofs.YtoliplgadhdgbaaDoor
open Go.RowKit
theorem At.byte {w : World} {b off n c : Nat} {l : List UInt8} (h : At w 1 e8 (some ⟨b, off, none⟩) n c l) {k : Nat} (hk : k < l.length) : w.cell? ⟨b, off + k, none⟩ = some (B8 l[k]) := by
  have hl := h.len
  obtain ⟨b', off', e, hc⟩ := h.cells k _ (List.getElem?_eq_getElem hk)
  injection e with e
  injection e with e1 e2
  subst e1 e2
  have := hc 0 _ rfl
  simpa using this
theorem or8 (q c : Nat) (hq : q < 72057594037927936) (hc : c < 2 ^ 8) : bits .or .u64 ((q : Int) * 256) (c : Int) = ((q * 256 + c : Nat) : Int) := by
  have e : q <<< 8 + c = q <<< 8 ||| c := Nat.shiftLeft_add_eq_or_of_lt hc q
  rw [Nat.shiftLeft_eq, show (2 : Nat) ^ 8 = 256 from rfl] at e
  rw [show (q : Int) * 256 = ((q * 256 : Nat) : Int) by simp, u64_or_nat _ _ (by omega) (by omega), ← e]
set_option maxRecDepth 100000 in
set_option maxHeartbeats 1000000 in
theorem numberOf_any {A : Option Addr} {n c : Nat} {l : List UInt8} {w : World} (h : At w 1 e8 A n c l) (hn : n ≤ 8) :
    Calls Tryd.prog 48 #[.slice A n c] w fun e w' => e = .returned (.int .u64 (numB l)) ∧ w = w' := by
  have hl := h.len
  have H := hide h
  have HL := hide hl
  clear h hl
  go_enter Tryd.func48, Tryd.ntmps48
  go_wp2_with fail
  go_loop [3, 8] (fun rn ri => ∃ k : Nat, k ≤ n ∧ ri = .int .i64 k ∧ rn = .int .u64 (numB (l.take k))) (fun _ ri => n - (intOf ri).toNat)
  case atStart => exact ⟨0, by omega, rfl, rfl⟩
  case round =>
    obtain ⟨k, hk, rfl, rfl⟩ := hrel
    by_cases hlt : k < n
    · obtain ⟨b, off, rfl, _⟩ := H.out.addr (by omega)
      have hkl : k < l.length := by have := HL.out; omega
      have c1 := H.out.byte hkl
      have i1 : (k : Int) < (n : Int) := by omega
      have hst := numB_take hkl
      have hlt2 := numB_lt k (l.take k) (by rw [List.length_take]; omega)
      have hp : 256 ^ k ≤ 256 ^ 7 := Nat.pow_le_pow_right (by omega) (by omega)
      generalize numB (l.take k) = q at *
      have hb := (l[k]).toNat_lt
      have hq : q < 72057594037927936 := by omega
      clear hlt2 hp
      have HST := hide hst
      clear hst
      go_wp2_with fail
      rw [or8 q l[k].toNat hq hb]
      exact ⟨⟨k + 1, by omega, by go_num, by rw [HST.out]⟩, by simp [intOf]; omega⟩
    · obtain rfl : n = k := by omega
      have HE : Hid (l.take n = l) := hide (by rw [← HL.out, List.take_length])
      have i1 : ¬ (n : Int) < (n : Int) := by omega
      go_wp2_with fail
      go_ret
      exact ⟨by rw [HE.out]; rfl, rfl⟩
theorem digit_yes (c : UInt8) (h : 48 ≤ c.toNat ∧ c.toNat ≤ 57) (w : World) : Calls Tryd.prog 28 #[B8 c] w fun e w' => e = .returned (.bool true) ∧ w = w' := by
  obtain ⟨h1, h2⟩ := h
  have h3 : (48 : Int) ≤ (c.toNat : Int) := by omega
  have h4 : (c.toNat : Int) ≤ 57 := by omega
  go_enter Tryd.func28, Tryd.ntmps28
  go_wp2
  go_ret
  exact ⟨ret_bool (by first | rfl | (simp; omega)), rfl⟩
theorem digit_no (c : UInt8) (h : ¬ (48 ≤ c.toNat ∧ c.toNat ≤ 57)) (w : World) : Calls Tryd.prog 28 #[B8 c] w fun e w' => e = .returned (.bool false) ∧ w = w' := by
  by_cases h1 : 48 ≤ c.toNat
  · have h2 : (48 : Int) ≤ (c.toNat : Int) := by omega
    have h3 : ¬ (c.toNat : Int) ≤ 57 := by omega
    clear h h1
    go_enter Tryd.func28, Tryd.ntmps28
    go_wp2
    go_ret
    exact ⟨ret_bool (by first | rfl | (simp; omega)), rfl⟩
  · have h2 : ¬ (48 : Int) ≤ (c.toNat : Int) := by omega
    clear h h1
    go_enter Tryd.func28, Tryd.ntmps28
    go_wp2
    go_ret
    exact ⟨ret_bool (by first | rfl | (simp; omega)), rfl⟩
theorem all_take_succ {s : ByteArray} {k : Nat} (h : k < s.size) : (s.data.toList.take (k + 1)).all kindC = ((s.data.toList.take k).all kindC && kindC s[k]) := by
  have e : s.data.toList.take (k + 1) = s.data.toList.take k ++ [s[k]] := by
    rw [List.take_succ_eq_append_getElem (by simpa using h)]; rfl
  rw [e, List.all_append]; simp
theorem all_no {s : ByteArray} {k : Nat} (h : k < s.size) (hc : kindC s[k] = false) : s.data.toList.all kindC = false := by
  rw [List.all_eq_false]
  exact ⟨s[k], by show s.data[k] ∈ s.data.toList; simp, by simp [hc]⟩
set_option maxRecDepth 100000 in
set_option maxHeartbeats 2000000 in
theorem isKind_any (s : ByteArray) (w : World) (hs : s.size ≤ maxLen) :
    Calls Tryd.prog 16 #[.string s] w fun e w' => e = .returned (.bool (isKindB s.data.toList)) ∧ w = w' := by
  unfold maxLen at hs
  have hsz : s.data.toList.length = s.size := by simp
  by_cases h4 : s.size = 4
  rotate_left
  · have HV : Hid (isKindB s.data.toList = false) := hide (by unfold isKindB; rw [hsz]; simp [h4])
    have i1 : ((s.size : Int) != 4) = true := by simp; omega
    clear hsz
    go_enter Tryd.func16, Tryd.ntmps16
    go_wp2_with fail
    go_ret
    exact ⟨by rw [HV.out]; rfl, rfl⟩
  have i1 : ((s.size : Int) != 4) = false := by simp; omega
  have HY : Hid (s.data.toList.all kindC = true → isKindB s.data.toList = true) := hide (fun h => by unfold isKindB; rw [hsz, h]; simp [h4])
  have HN : Hid (s.data.toList.all kindC = false → isKindB s.data.toList = false) := hide (fun h => by unfold isKindB; rw [h]; simp)
  have HTK : Hid (s.data.toList.take s.size = s.data.toList) := hide (by rw [← hsz, List.take_length])
  clear hsz h4
  go_enter Tryd.func16, Tryd.ntmps16
  go_wp2_with fail
  go_loop [9] (fun ri => ∃ k : Nat, k ≤ s.size ∧ ri = .int .i64 k ∧ Hid ((s.data.toList.take k).all kindC = true)) (fun ri => s.size - (intOf ri).toNat)
  case atStart => exact ⟨0, by omega, rfl, hide (by simp)⟩
  case round =>
    obtain ⟨k, hk, rfl, HA⟩ := hrel
    by_cases hlt : k < s.size
    · have HS := hide (all_take_succ hlt)
      have HNO : Hid (kindC s[k] = false → isKindB s.data.toList = false) := hide (fun h => HN.out (all_no hlt h))
      by_cases hd : 48 ≤ s[k].toNat ∧ s[k].toNat ≤ 57
      · have HK : Hid ((s.data.toList.take (k + 1)).all kindC = true) := hide (by rw [HS.out, HA.out]; simp [kindC, hd])
        have HD := hide (digit_yes s[k] hd w)
        clear hd
        go_wp2_with (go_at_call 28; refine HD.out.mono ?_; rintro e w' ⟨rfl, rfl⟩)
        exact ⟨⟨k + 1, by omega, by go_num, HK⟩, by simp [intOf]; omega⟩
      · have HD := hide (digit_no s[k] hd w)
        by_cases hl : 97 ≤ s[k].toNat ∧ s[k].toNat ≤ 122
        · have HK : Hid ((s.data.toList.take (k + 1)).all kindC = true) := hide (by rw [HS.out, HA.out]; simp [kindC, hl])
          have g1 : decide ((s[k].toNat : Int) < 97) = false := by simp; omega
          have g2 : decide ((122 : Int) < (s[k].toNat : Int)) = false := by simp; omega
          have g3 : ¬ (s[k].toNat : Int) < 97 := by omega
          have g4 : ¬ (122 : Int) < (s[k].toNat : Int) := by omega
          clear hd hl
          go_wp2_with (go_at_call 28; refine HD.out.mono ?_; rintro e w' ⟨rfl, rfl⟩)
          exact ⟨⟨k + 1, by omega, by go_num, HK⟩, by simp [intOf]; omega⟩
        · have HV : Hid (isKindB s.data.toList = false) := hide (HNO.out (by simp [kindC]; omega))
          by_cases hl1 : s[k].toNat < 97
          · have g1 : (s[k].toNat : Int) < 97 := by omega
            clear hd hl hl1
            go_wp2_with (go_at_call 28; refine HD.out.mono ?_; rintro e w' ⟨rfl, rfl⟩)
            go_ret
            exact ⟨by rw [HV.out]; rfl, rfl⟩
          · have g1 : ¬ (s[k].toNat : Int) < 97 := by omega
            have g2 : (122 : Int) < (s[k].toNat : Int) := by omega
            clear hd hl hl1
            go_wp2_with (go_at_call 28; refine HD.out.mono ?_; rintro e w' ⟨rfl, rfl⟩)
            go_ret
            exact ⟨by rw [HV.out]; rfl, rfl⟩
    · obtain rfl : k = s.size := by omega
      have HV : Hid (isKindB s.data.toList = true) := hide (HY.out (by rw [← HTK.out]; exact HA.out))
      go_wp2_with fail
      go_ret
      exact ⟨by rw [HV.out]; rfl, rfl⟩
theorem lay_eq (l : List UInt8) : (⟨l.toArray⟩ : ByteArray).data.toList = l := rfl
/-- Strings of four bytes that are a kind. -/
theorem hasKids_any (l : List UInt8) (w : World) : Calls Tryd.prog 31 #[.string ⟨l.toArray⟩] w fun e w' => e = .returned (.bool (hasKidsB l)) ∧ w = w' := by
  go_enter Tryd.func31, Tryd.ntmps31
  go_wp2_with fail
  all_goals
    go_ret
    exact ⟨ret_bool (by unfold hasKidsB kFilm kTrck kFrag; simp [*]), rfl⟩
end Go.Proofs.YtoliplgadhdgbaaDoor
