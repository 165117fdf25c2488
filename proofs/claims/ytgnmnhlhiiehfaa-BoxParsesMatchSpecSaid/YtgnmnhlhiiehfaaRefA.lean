/- Walks: numbers out of bytes, kinds, stop (reference). Conditions as stated. -/
import Derived.Test.YtgnmnhlhiiehfaaBoxA
import Derived.Test.YtgnmnhlhiiehfaaStep
import Derived.Deep.DeepCutAuto
namespace Go.Proofs.Ytgnmnhlhiiehfaa
open Go.RowKit
set_option maxRecDepth 100000 in
set_option maxHeartbeats 2000000 in
theorem isKindR_any (s : ByteArray) (w : World) (hs : s.size ≤ maxLen) :
    Calls Try.prog 65 #[.string s] w fun e w' => e = .returned (.bool (isKindB s.data.toList)) ∧ w = w' := by
  unfold maxLen at hs
  have hsz : s.data.toList.length = s.size := by simp
  have HY : Hid (s.data.toList.all kindC = true → isKindB s.data.toList = ((s.size : Int) == 4)) := hide (fun h => by unfold isKindB; rw [hsz, h]; simp; rw [Bool.eq_iff_iff]; simp; omega)
  have HN : Hid (s.data.toList.all kindC = false → isKindB s.data.toList = false) := hide (fun h => by unfold isKindB; rw [h]; simp)
  have HTK : Hid (s.data.toList.take s.size = s.data.toList) := hide (by rw [← hsz, List.take_length])
  clear hsz
  go_enter Try.func65, Try.ntmps65
  go_wp2_with fail
  go_loop [3] (fun ri => ∃ k : Nat, k ≤ s.size ∧ ri = .int .i64 k ∧ Hid ((s.data.toList.take k).all kindC = true)) (fun ri => s.size - (intOf ri).toNat)
  case atStart => exact ⟨0, by omega, rfl, hide (by simp)⟩
  case round =>
    obtain ⟨k, hk, rfl, HA⟩ := hrel
    by_cases hlt : k < s.size
    · have HS := hide (all_take_succ hlt)
      have HNO : Hid (kindC s[k] = false → isKindB s.data.toList = false) := hide (fun h => HN.out (all_no hlt h))
      have i1 : (k : Int) < (s.size : Int) := by omega
      by_cases hl : 97 ≤ s[k].toNat ∧ s[k].toNat ≤ 122
      · have HK : Hid ((s.data.toList.take (k + 1)).all kindC = true) := hide (by rw [HS.out, HA.out]; simp [kindC, hl])
        have g1 : (97 : Int) ≤ (s[k].toNat : Int) := by omega
        have g2 : (s[k].toNat : Int) ≤ 122 := by omega
        clear hl
        go_wp2_with fail
        exact ⟨⟨k + 1, by omega, by go_num, HK⟩, by simp [intOf]; omega⟩
      · by_cases hd : 48 ≤ s[k].toNat ∧ s[k].toNat ≤ 57
        · have HK : Hid ((s.data.toList.take (k + 1)).all kindC = true) := hide (by rw [HS.out, HA.out]; simp [kindC, hd])
          have g1 : ¬ (97 : Int) ≤ (s[k].toNat : Int) := by omega
          have g2 : (48 : Int) ≤ (s[k].toNat : Int) := by omega
          have g3 : (s[k].toNat : Int) ≤ 57 := by omega
          clear hl hd
          go_wp2_with fail
          exact ⟨⟨k + 1, by omega, by go_num, HK⟩, by simp [intOf]; omega⟩
        · have HV : Hid (isKindB s.data.toList = false) := hide (HNO.out (by simp [kindC]; omega))
          by_cases hc1 : 97 ≤ s[k].toNat
          · have g1 : (97 : Int) ≤ (s[k].toNat : Int) := by omega
            have g2 : ¬ (s[k].toNat : Int) ≤ 122 := by omega
            have g3 : (48 : Int) ≤ (s[k].toNat : Int) := by omega
            have g4 : ¬ (s[k].toNat : Int) ≤ 57 := by omega
            clear hd hl hc1
            go_wp2_with fail
            go_ret
            exact ⟨by rw [HV.out]; rfl, rfl⟩
          · have g1 : ¬ (97 : Int) ≤ (s[k].toNat : Int) := by omega
            by_cases hc2 : 48 ≤ s[k].toNat
            · have g3 : (48 : Int) ≤ (s[k].toNat : Int) := by omega
              have g4 : ¬ (s[k].toNat : Int) ≤ 57 := by omega
              clear hd hl hc1 hc2
              go_wp2_with fail
              go_ret
              exact ⟨by rw [HV.out]; rfl, rfl⟩
            · have g3 : ¬ (48 : Int) ≤ (s[k].toNat : Int) := by omega
              clear hd hl hc1 hc2
              go_wp2_with fail
              go_ret
              exact ⟨by rw [HV.out]; rfl, rfl⟩
    · obtain rfl : k = s.size := by omega
      have HV : Hid (isKindB s.data.toList = ((s.size : Int) == 4)) := hide (HY.out (by rw [← HTK.out]; exact HA.out))
      have i1 : ¬ (s.size : Int) < (s.size : Int) := by omega
      go_wp2_with fail
      go_ret
      exact ⟨by rw [HV.out]; rfl, rfl⟩
theorem nests_any (l : List UInt8) (w : World) : Calls Try.prog 66 #[.string ⟨l.toArray⟩] w fun e w' => e = .returned (.bool (hasKidsB l)) ∧ w = w' := by
  go_enter Try.func66, Try.ntmps66
  go_wp2_with fail
  all_goals
    go_ret
    exact ⟨ret_bool (by unfold hasKidsB kFilm kTrck kFrag; simp [*]), rfl⟩
/-- The number that the reference takes bytes for. -/
def numR (l : List UInt8) : Nat := if l.length = 8 ∧ 18014398509481984 ≤ numB (l.take 7) then 4611686018427387904 else numB l
theorem numR_small {l : List UInt8} (h : l.length < 8) : numR l = numB l := by unfold numR; rw [if_neg (by omega)]
theorem numR_cap {l : List UInt8} (h : l.length = 8) (n : Nat) (hn : n < 4611686018427387904) : (numR l ≤ n ↔ numB l ≤ n) ∧ ∀ m, m < 4611686018427387904 → (numR l = m ↔ numB l = m) := by
  unfold numR
  have e : l = l.take 7 ++ [l[7]] := by
    conv => lhs; rw [← List.take_append_drop 7 l]
    congr 1
    rw [List.drop_eq_getElem_cons (by omega), List.drop_of_length_le (by omega)]
  have e2 : numB l = numB (l.take 7) * 256 + (l[7]).toNat := by
    conv => lhs; rw [e]
    exact numB_snoc _ _
  by_cases hc : l.length = 8 ∧ 18014398509481984 ≤ numB (l.take 7)
  · rw [if_pos hc]; exact ⟨by omega, fun m hm => by omega⟩
  · rw [if_neg hc]; exact ⟨Iff.rfl, fun m hm => Iff.rfl⟩
set_option maxRecDepth 100000 in
set_option maxHeartbeats 1000000 in
theorem number_any {A : Option Addr} {n c : Nat} {l : List UInt8} {w : World} (h : At w 1 e8 A n c l) (hn : n ≤ 8) :
    Calls Try.prog 58 #[.slice A n c] w fun e w' => e = .returned (.int .i64 (numR l)) ∧ w = w' := by
  have hl := h.len
  have H := hide h
  have HL := hide hl
  clear h hl
  go_enter Try.func58, Try.ntmps58
  go_wp2_with fail
  go_loop [3, 4] (fun rn ri => ∃ k : Nat, k ≤ n ∧ ri = .int .i64 k ∧ rn = .int .i64 (numB (l.take k)) ∧ Hid (∀ j, j < k → numB (l.take j) < 18014398509481984)) (fun _ ri => n - (intOf ri).toNat)
  case atStart => exact ⟨0, by omega, rfl, rfl, hide (fun j hj => by omega)⟩
  case round =>
    obtain ⟨k, hk, rfl, rfl, HJ⟩ := hrel
    by_cases hlt : k < n
    · obtain ⟨b, off, rfl, _⟩ := H.out.addr (by omega)
      have hkl : k < l.length := by have := HL.out; omega
      have c1 := H.out.byte hkl
      have i1 : (k : Int) < (n : Int) := by omega
      have hst := numB_take hkl
      have hlt2 := numB_lt k (l.take k) (by rw [List.length_take]; omega)
      by_cases hbig : 18014398509481984 ≤ numB (l.take k)
      · have hk7 : k = 7 := by
          have : ¬ k ≤ 6 := fun h6 => by
            have : 256 ^ k ≤ 256 ^ 6 := Nat.pow_le_pow_right (by omega) h6
            omega
          omega
        have HV : Hid (numR l = 4611686018427387904) := hide (by unfold numR; rw [if_pos ⟨by have := HL.out; omega, by rw [← hk7]; exact hbig⟩])
        generalize numB (l.take k) = q at *
        have i2 : (18014398509481984 : Int) ≤ (q : Int) := by omega
        clear hlt2 hst hbig hk7
        go_wp2_with fail
        go_ret
        exact ⟨by rw [HV.out]; rfl, rfl⟩
      · have HJ2 : Hid (∀ j, j < k + 1 → numB (l.take j) < 18014398509481984) := hide (fun j hj => by
          rcases Nat.lt_succ_iff_lt_or_eq.1 hj with h | h
          · exact HJ.out j h
          · rw [h]; omega)
        generalize numB (l.take k) = q at *
        have hb := (l[k]).toNat_lt
        have i2 : ¬ (18014398509481984 : Int) ≤ (q : Int) := by omega
        have u1 : IntKind.i64.wrap ((q : Int) * 256) = (q : Int) * 256 := by rw [IntKind.wrap_i64]; omega
        have u2 : IntKind.i64.wrap ((q : Int) * 256 + (l[k].toNat : Int)) = (q : Int) * 256 + (l[k].toNat : Int) := by rw [IntKind.wrap_i64]; omega
        have HST : Hid ((q : Int) * 256 + (l[k].toNat : Int) = (numB (l.take (k + 1)) : Int)) := hide (by rw [hst]; push_cast; rfl)
        clear hlt2 hst hbig
        go_wp2_with fail
        exact ⟨⟨k + 1, by omega, by go_num, by rw [HST.out], HJ2⟩, by simp [intOf]; omega⟩
    · obtain rfl : n = k := by omega
      have HE : Hid (l.take n = l) := hide (by rw [← HL.out, List.take_length])
      have HV : Hid (numR l = numB l) := hide (by
        unfold numR
        rw [if_neg]
        rintro ⟨h8, h9⟩
        have := HJ.out 7 (by have := HL.out; omega)
        omega)
      have i1 : ¬ (n : Int) < (n : Int) := by omega
      go_wp2_with fail
      go_ret
      exact ⟨by rw [HV.out, HE.out]; rfl, rfl⟩
theorem stop_any {gp : Nat} {A : Option Addr} {n c : Nat} {cnt : Int} {f : Int} {at_ : Int} {w : World} (hp : Blk w gp 100 #[.slice A n c, .int .i64 cnt, .int .i64 0, .int .i64 0]) :
    Calls Try.prog 64 #[.pointer (some ⟨gp, 0, none⟩), .int .i64 f, .int .i64 at_] w fun e w' => e = .returned (.slice none 0 0) ∧ Blk w' gp 100 #[.slice A n c, .int .i64 cnt, .int .i64 at_, .int .i64 f] ∧ Tw w w' gp none := by
  have P := hide hp
  have p3 : w.cell? ⟨gp, 3, none⟩ = some (.int .i64 0) := hp.cell 3
  have z3 : w.frozen? ⟨gp, 3, none⟩ = false := hp.frozen 3
  have z2 : w.frozen? ⟨gp, 2, none⟩ = false := hp.frozen 2
  have p2 : w.cell? ⟨gp, 2, none⟩ = some (.int .i64 0) := hp.cell 2
  clear hp
  go_enter Try.func64, Try.ntmps64
  go_wp2_with fail
  go_ret
  exact ⟨rfl, (P.out.set_ 3 _).set_ 2 _, (Tw.set_ _ _ _ _ _).trans (Tw.set_ _ _ _ _ _)⟩
end Go.Proofs.Ytgnmnhlhiiehfaa
