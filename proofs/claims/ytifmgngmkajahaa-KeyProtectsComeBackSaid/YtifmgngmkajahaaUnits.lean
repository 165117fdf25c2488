/- Walks: Units (both). Conditions: none. -/
import Derived.Test.YtifmgngmkajahaaPairs
import Derived.Test.YtifmgngmkajahaaInts
import Derived.Lib.MinMax
namespace Go.Proofs.Ytifmgngmkajahaa
open Go.RowKit

theorem Try.info49 : (Try.prog.info? 49).map (fun i => (i.zero, i.size, i.bytes)) = some (some (.agg #[.int .i64 0, .int .i64 0]), 2, 16) := by kernel_rfl
/-- What of a unit is protected; the element that it becomes. -/
def unitP (keep n : Int) : Int := max 0 (n - keep) / 8 * 8
def unitX (keep n : Int) : Int × Int := (n - unitP keep n, unitP keep n)
def unitsF (l : List Int) (keep : Int) : Int :=
  if 500 < l.length then 2 else if ∃ n ∈ l, n < 1 ∨ 100000 < n then 1 else if keep < 0 ∨ 100000 < keep then 1 else if 100000 < l.sum then 2 else 0
def unitsL (l : List Int) (keep : Int) : List (Int × Int) := if unitsF l keep ≠ 0 then [] else l.map (unitX keep)
theorem unitsL_none {l : List Int} {keep : Int} (h : unitsF l keep ≠ 0) : unitsL l keep = [] := by unfold unitsL; rw [if_pos h]
theorem unitsF_long {l : List Int} {keep : Int} (h : 500 < l.length) : unitsF l keep = 2 := by unfold unitsF; rw [if_pos h]
theorem unitsF_bad {l : List Int} {keep : Int} (h : ¬ 500 < l.length) {k : Nat} (hk : k < l.length) (hb : l.getD k 0 < 1 ∨ 100000 < l.getD k 0) : unitsF l keep = 1 := by
  unfold unitsF; rw [if_neg h, if_pos ⟨_, getD_mem l k 0 hk, hb⟩]
theorem noBad {l : List Int} (h : ∀ j, j < l.length → 1 ≤ l.getD j 0 ∧ l.getD j 0 ≤ 100000) : ¬ ∃ n ∈ l, n < 1 ∨ 100000 < n := by
  rintro ⟨n, hn, hb⟩
  obtain ⟨j, hj, rfl⟩ := mem_getD 0 hn
  have := h j hj
  omega
theorem unitsF_keep {l : List Int} {keep : Int} (h : ¬ 500 < l.length) (ha : ∀ j, j < l.length → 1 ≤ l.getD j 0 ∧ l.getD j 0 ≤ 100000) (hb : keep < 0 ∨ 100000 < keep) : unitsF l keep = 1 := by
  unfold unitsF; rw [if_neg h, if_neg (noBad ha), if_pos hb]
theorem unitsF_sum {l : List Int} {keep : Int} (h : ¬ 500 < l.length) (ha : ∀ j, j < l.length → 1 ≤ l.getD j 0 ∧ l.getD j 0 ≤ 100000) (hb : ¬ (keep < 0 ∨ 100000 < keep)) (hs : 100000 < l.sum) : unitsF l keep = 2 := by
  unfold unitsF; rw [if_neg h, if_neg (noBad ha), if_neg hb, if_pos hs]
theorem unitsF_ok {l : List Int} {keep : Int} (h : ¬ 500 < l.length) (ha : ∀ j, j < l.length → 1 ≤ l.getD j 0 ∧ l.getD j 0 ≤ 100000) (hb : ¬ (keep < 0 ∨ 100000 < keep)) (hs : ¬ 100000 < l.sum) : unitsF l keep = 0 := by
  unfold unitsF; rw [if_neg h, if_neg (noBad ha), if_neg hb, if_neg hs]
theorem sum_take_bd {l : List Int} : ∀ k : Nat, (∀ j, j < k → 1 ≤ l.getD j 0 ∧ l.getD j 0 ≤ 100000) → k ≤ l.length → 0 ≤ (l.take k).sum ∧ (l.take k).sum ≤ 100000 * (k : Int)
  | 0, _, _ => by simp
  | k + 1, h, hk => by
    have ih := sum_take_bd k (fun j hj => h j (by omega)) (by omega)
    have h1 := h k (by omega)
    rw [getD_take l k 0 (by omega)]
    simp only [List.sum_append, List.sum_cons, List.sum_nil]
    omega
theorem unitP_bd (keep n : Int) (h1 : 1 ≤ n) (h2 : n ≤ 100000) (h3 : 0 ≤ keep) : 0 ≤ unitP keep n ∧ unitP keep n ≤ n := by
  unfold unitP
  omega

set_option maxRecDepth 100000 in
set_option maxHeartbeats 4000000 in
theorem keyUnits_any {A : Option Addr} {n c : Nat} {l : List Int} {w : World} (h : At w 1 e64 A n c l) (keep : Int) :
    Calls Try.prog 34 #[.slice A n c, .int .i64 keep] w (Gives 2 e2 w (unitsL l keep) (unitsF l keep)) := by
  obtain ⟨i0, hi0, hz0, hz1, hz2⟩ := info_parts Try.info49
  have hb := h.bound
  have hl := h.len
  have H := hide h
  by_cases h5 : 500 < n
  · have hf : unitsF l keep = 2 := unitsF_long (by omega)
    have HF := hide hf
    have HL := hide (unitsL_none (l := l) (keep := keep) (by omega))
    clear hf hl h
    go_enter Try.func34, Try.ntmps34
    go_wp2_with fail
    go_ret2
    exact gives_nil' HF.out HL.out (by repeat' (first | (with_reducible exact Below.refl _ _) | (with_reducible assumption) | (with_reducible refine below_drewN ?_ _) | (with_reducible refine Below.drew ?_) | (with_reducible refine ext_alloc ?_ _) | (with_reducible refine Below.setCell ?_ ?_ _) | go_size))
  have h5' : n ≤ 500 := by omega
  have HN : Hid (¬ 500 < l.length) := hide (by omega)
  have HLN := hide hl
  clear h5 hl h
  go_enter Try.func34, Try.ntmps34
  go_wp2_with fail
  go_loop [6, 18] (fun al ri => ∃ k : Nat, k ≤ n ∧ ri = .int .i64 k ∧ al = .int .i64 (l.take k).sum ∧ Hid (∀ j, j < k → 1 ≤ l.getD j 0 ∧ l.getD j 0 ≤ 100000)) (fun _ i => n - (intOf i).toNat)
  case atStart => exact ⟨0, by omega, rfl, by simp, hide (fun j hj => by omega)⟩
  case round =>
    obtain ⟨k, hk, rfl, rfl, HA⟩ := hrel
    by_cases hlt : k < n
    · obtain ⟨b, off, rfl, _⟩ := H.out.addr (by omega)
      have a1 := H.out.num hlt
      obtain ⟨s0, s1⟩ := sum_take_bd (l := l) k HA.out (by have := HLN.out; omega)
      have HS : Hid ((l.take (k + 1)).sum = (l.take k).sum + l.getD k 0) := hide (by rw [getD_take l k 0 (by have := HLN.out; omega)]; simp)
      obtain ⟨y, hy⟩ : ∃ y, y = l.getD k 0 := ⟨_, rfl⟩
      rw [← hy] at a1 HS
      generalize (l.take k).sum = s at *
      by_cases hg : 1 ≤ y ∧ y ≤ 100000
      · have HA2 : Hid (∀ j, j < k + 1 → 1 ≤ l.getD j 0 ∧ l.getD j 0 ≤ 100000) := hide (fun j hj => by
          rcases Nat.lt_succ_iff_lt_or_eq.1 hj with h | h
          · exact HA.out j h
          · rw [h, ← hy]; exact hg)
        clear hy
        go_wp2_with (first | ((go_at_call 87; with_reducible refine (out_no ?_ _).mono ?_); (focus omega); rintro e w' ⟨rfl, rfl⟩) | ((go_at_call 87; with_reducible refine (out_yes ?_ _).mono ?_); (focus omega); rintro e w' ⟨rfl, rfl⟩))
        go_round
        case rel => exact ⟨k + 1, by omega, by go_num, by rw [HS.out], HA2⟩
        case measure => simp [intOf]; omega
      · have HF : Hid (unitsF l keep = 1) := hide (unitsF_bad (k := k) HN.out (by have := HLN.out; omega) (by rw [← hy]; omega))
        have HL := hide (unitsL_none (l := l) (keep := keep) (by rw [HF.out]; decide))
        clear hy HS
        go_wp2_with (first | ((go_at_call 87; with_reducible refine (out_no ?_ _).mono ?_); (focus omega); rintro e w' ⟨rfl, rfl⟩) | ((go_at_call 87; with_reducible refine (out_yes ?_ _).mono ?_); (focus omega); rintro e w' ⟨rfl, rfl⟩))
        go_ret2
        exact gives_nil' HF.out HL.out (by repeat' (first | (with_reducible exact Below.refl _ _) | (with_reducible assumption) | (with_reducible refine below_drewN ?_ _) | (with_reducible refine Below.drew ?_) | (with_reducible refine ext_alloc ?_ _) | (with_reducible refine Below.setCell ?_ ?_ _) | go_size))
    · have hkn : k = n := by omega
      have HA2 : Hid (∀ j, j < l.length → 1 ≤ l.getD j 0 ∧ l.getD j 0 ≤ 100000) := hide (fun j hj => HA.out j (by rw [HLN.out] at hj; omega))
      have HSM : Hid ((l.take k).sum = l.sum) := hide (by rw [List.take_of_length_le (by have := HLN.out; omega)])
      clear hkn
      by_cases hkp : keep < 0 ∨ 100000 < keep
      · have HF : Hid (unitsF l keep = 1) := hide (unitsF_keep HN.out HA2.out hkp)
        have HL := hide (unitsL_none (l := l) (keep := keep) (by rw [HF.out]; decide))
        generalize (l.take k).sum = s at *
        go_wp2_with (first | ((go_at_call 87; with_reducible refine (out_no ?_ _).mono ?_); (focus omega); rintro e w' ⟨rfl, rfl⟩) | ((go_at_call 87; with_reducible refine (out_yes ?_ _).mono ?_); (focus omega); rintro e w' ⟨rfl, rfl⟩))
        go_ret2
        exact gives_nil' HF.out HL.out (by repeat' (first | (with_reducible exact Below.refl _ _) | (with_reducible assumption) | (with_reducible refine below_drewN ?_ _) | (with_reducible refine Below.drew ?_) | (with_reducible refine ext_alloc ?_ _) | (with_reducible refine Below.setCell ?_ ?_ _) | go_size))
      rw [HSM.out]
      obtain ⟨s0, s1⟩ := sum_take_bd (l := l) k HA.out (by have := HLN.out; omega)
      rw [HSM.out] at s0 s1
      clear HSM
      by_cases hsm : 100000 < l.sum
      · have HF : Hid (unitsF l keep = 2) := hide (unitsF_sum HN.out HA2.out hkp hsm)
        have HL := hide (unitsL_none (l := l) (keep := keep) (by rw [HF.out]; decide))
        generalize l.sum = s at *
        have hkp' : 0 ≤ keep ∧ keep ≤ 100000 := by omega
        clear hkp
        go_wp2_with (first | ((go_at_call 87; with_reducible refine (out_no ?_ _).mono ?_); (focus omega); rintro e w' ⟨rfl, rfl⟩) | ((go_at_call 87; with_reducible refine (out_yes ?_ _).mono ?_); (focus omega); rintro e w' ⟨rfl, rfl⟩))
        go_ret2
        exact gives_nil' HF.out HL.out (by repeat' (first | (with_reducible exact Below.refl _ _) | (with_reducible assumption) | (with_reducible refine below_drewN ?_ _) | (with_reducible refine Below.drew ?_) | (with_reducible refine ext_alloc ?_ _) | (with_reducible refine Below.setCell ?_ ?_ _) | go_size))
      have HF : Hid (unitsF l keep = 0) := hide (unitsF_ok HN.out HA2.out hkp hsm)
      have HL : Hid (unitsL l keep = l.map (unitX keep)) := hide (by unfold unitsL; rw [if_neg (by rw [HF.out]; decide)])
      generalize l.sum = s at *
      have hkp' : 0 ≤ keep ∧ keep ≤ 100000 := by omega
      have hsm' : s ≤ 100000 := by omega
      clear hkp hsm
      go_wp2_with (first | ((go_at_call 87; with_reducible refine (out_no ?_ _).mono ?_); (focus omega); rintro e w' ⟨rfl, rfl⟩) | ((go_at_call 87; with_reducible refine (out_yes ?_ _).mono ?_); (focus omega); rintro e w' ⟨rfl, rfl⟩))
      go_loopw [9, 36] (fun ro ri wr => ∃ j : Nat, j ≤ n ∧ ri = .int .i64 j ∧ Hid (Own wr w.heap.size 49 2 e2 ro ((l.map (unitX keep)).take j)) ∧ Hid (Ext w wr)) (fun _ ri _ => n - (intOf ri).toNat)
      case atStart => exact ⟨0, by omega, rfl, hide (Own.nil _ _ _ _ _), hide (Ext.refl _)⟩
      case round =>
        obtain ⟨j, hj, rfl, HO, HX⟩ := hrel
        by_cases hlj : j < n
        · obtain ⟨b, off, rfl, _⟩ := H.out.addr (by omega)
          have a1 := (H.out.ext HX.out).num hlj
          obtain ⟨g1, g2⟩ := HA2.out j (by have := HLN.out; omega)
          have HT : Hid ((l.map (unitX keep)).take (j + 1) = (l.map (unitX keep)).take j ++ [unitX keep (l.getD j 0)]) := hide (by rw [getD_take (l.map (unitX keep)) j (unitX keep 0) (by rw [List.length_map]; have := HLN.out; omega)]; simp [List.getD, show j < l.length by have := HLN.out; omega])
          generalize l.getD j 0 = y at *
          obtain ⟨q1, q2⟩ := unitP_bd keep y (by omega) (by omega) (by omega)
          have hq : Hid (max 0 (y - keep) / 8 * 8 = unitP keep y) := hide rfl
          have A7 := hide (At.pair1 wr (y - max 0 (y - keep) / 8 * 8) (max 0 (y - keep) / 8 * 8) 49)
          have O7 := hide (HO.out.ext (Ext.alloc wr (.cells #[.int .i64 (y - max 0 (y - keep) / 8 * 8), .int .i64 (max 0 (y - keep) / 8 * 8)] 49)))
          have E7 := hide (ext_alloc HX.out (.cells #[.int .i64 (y - max 0 (y - keep) / 8 * 8), .int .i64 (max 0 (y - keep) / 8 * 8)] 49))
          have z7 := E7.out.size
          have hl7 : Hid (((l.map (unitX keep)).take j).length = j) := hide (by rw [List.length_take, List.length_map, HLN.out]; omega)
          clear HO HX
          go_wp2_with (at_builtin; refine wpList_append_at _ rfl (.tmp 46) (.tmp 52) 44 rfl w.heap.size 49 i0 _ 16 Try.underlying44 hi0 hz0 hz1 hz2 rfl (by omega) len_e2 one_e2 _ ((l.map (unitX keep)).take j) rfl O7.out (some ⟨wr.heap.size, 0, none⟩) 1 1 [(y - max 0 (y - keep) / 8 * 8, max 0 (y - keep) / 8 * 8)] rfl A7.out ?d1 ?d2 ?d3 ?_)
          case d1 => rw [hl7.out]; unfold maxLen; omega
          case d2 => rw [hl7.out]; omega
          case d3 => exact z7
          intro v8 w8 o8 g8 _ _
          have o8' : Own w8 w.heap.size 49 2 e2 v8 ((l.map (unitX keep)).take (j + 1)) := by rw [HT.out]; exact o8
          have O8 := hide o8'
          have E8 : Hid (Ext w w8) := hide (O7.out.below E7.out g8 (Nat.le_refl _))
          clear o8 o8' g8 O7 E7 z7 A7
          go_wp2
          go_roundw
          case rel =>
            first
              | exact ⟨j + 1, by omega, by go_num, O8, E8⟩
              | ((repeat apply Exists.intro); exact ⟨⟨j + 1, by omega, by go_num, O8, E8⟩, rfl⟩)
          case measure => simp [intOf]; omega
        · obtain ⟨A9, c9, hv9, a9⟩ := HO.out.at_ len_e2
          have hll : Hid ((l.map (unitX keep)).take j = unitsL l keep) := hide (by rw [HL.out, List.take_of_length_le (by rw [List.length_map]; have := HLN.out; omega)])
          rw [hv9]
          have HV := hide a9
          clear hv9 a9 HO
          go_wp2
          go_ret2
          exact gives_at HF.out hll.out HV.out HX.out
set_option maxRecDepth 100000 in
set_option maxHeartbeats 4000000 in
theorem refUnits_any {A : Option Addr} {n c : Nat} {l : List Int} {w : World} (h : At w 1 e64 A n c l) (keep : Int) :
    Calls Try.prog 35 #[.slice A n c, .int .i64 keep] w (Gives 2 e2 w (unitsL l keep) (unitsF l keep)) := by
  obtain ⟨i0, hi0, hz0, hz1, hz2⟩ := info_parts Try.info49
  have hb := h.bound
  have hl := h.len
  have H := hide h
  by_cases h5 : 500 < n
  · have hf : unitsF l keep = 2 := unitsF_long (by omega)
    have HF := hide hf
    have HL := hide (unitsL_none (l := l) (keep := keep) (by omega))
    clear hf hl h
    go_enter Try.func35, Try.ntmps35
    go_wp2_with fail
    go_ret2
    exact gives_nil' HF.out HL.out (by repeat' (first | (with_reducible exact Below.refl _ _) | (with_reducible assumption) | (with_reducible refine below_drewN ?_ _) | (with_reducible refine Below.drew ?_) | (with_reducible refine ext_alloc ?_ _) | (with_reducible refine Below.setCell ?_ ?_ _) | go_size))
  have h5' : n ≤ 500 := by omega
  have HN : Hid (¬ 500 < l.length) := hide (by omega)
  have HLN := hide hl
  clear h5 hl h
  go_enter Try.func35, Try.ntmps35
  go_wp2_with fail
  go_loop [6, 18] (fun al ri => ∃ k : Nat, k ≤ n ∧ ri = .int .i64 k ∧ al = .int .i64 (l.take k).sum ∧ Hid (∀ j, j < k → 1 ≤ l.getD j 0 ∧ l.getD j 0 ≤ 100000)) (fun _ i => n - (intOf i).toNat)
  case atStart => exact ⟨0, by omega, rfl, by simp, hide (fun j hj => by omega)⟩
  case round =>
    obtain ⟨k, hk, rfl, rfl, HA⟩ := hrel
    by_cases hlt : k < n
    · obtain ⟨b, off, rfl, _⟩ := H.out.addr (by omega)
      have a1 := H.out.num hlt
      obtain ⟨s0, s1⟩ := sum_take_bd (l := l) k HA.out (by have := HLN.out; omega)
      have HS : Hid ((l.take (k + 1)).sum = (l.take k).sum + l.getD k 0) := hide (by rw [getD_take l k 0 (by have := HLN.out; omega)]; simp)
      obtain ⟨y, hy⟩ : ∃ y, y = l.getD k 0 := ⟨_, rfl⟩
      rw [← hy] at a1 HS
      generalize (l.take k).sum = s at *
      by_cases hg : 1 ≤ y ∧ y ≤ 100000
      · have HA2 : Hid (∀ j, j < k + 1 → 1 ≤ l.getD j 0 ∧ l.getD j 0 ≤ 100000) := hide (fun j hj => by
          rcases Nat.lt_succ_iff_lt_or_eq.1 hj with h | h
          · exact HA.out j h
          · rw [h, ← hy]; exact hg)
        clear hy
        go_wp2_with (first | ((go_at_call 92; with_reducible refine (within_yes ?_ _).mono ?_); (focus omega); rintro e w' ⟨rfl, rfl⟩) | ((go_at_call 92; with_reducible refine (within_no ?_ _).mono ?_); (focus omega); rintro e w' ⟨rfl, rfl⟩))
        go_round
        case rel => exact ⟨k + 1, by omega, by go_num, by rw [HS.out], HA2⟩
        case measure => simp [intOf]; omega
      · have HF : Hid (unitsF l keep = 1) := hide (unitsF_bad (k := k) HN.out (by have := HLN.out; omega) (by rw [← hy]; omega))
        have HL := hide (unitsL_none (l := l) (keep := keep) (by rw [HF.out]; decide))
        clear hy HS
        go_wp2_with (first | ((go_at_call 92; with_reducible refine (within_yes ?_ _).mono ?_); (focus omega); rintro e w' ⟨rfl, rfl⟩) | ((go_at_call 92; with_reducible refine (within_no ?_ _).mono ?_); (focus omega); rintro e w' ⟨rfl, rfl⟩))
        go_ret2
        exact gives_nil' HF.out HL.out (by repeat' (first | (with_reducible exact Below.refl _ _) | (with_reducible assumption) | (with_reducible refine below_drewN ?_ _) | (with_reducible refine Below.drew ?_) | (with_reducible refine ext_alloc ?_ _) | (with_reducible refine Below.setCell ?_ ?_ _) | go_size))
    · have hkn : k = n := by omega
      have HA2 : Hid (∀ j, j < l.length → 1 ≤ l.getD j 0 ∧ l.getD j 0 ≤ 100000) := hide (fun j hj => HA.out j (by rw [HLN.out] at hj; omega))
      have HSM : Hid ((l.take k).sum = l.sum) := hide (by rw [List.take_of_length_le (by have := HLN.out; omega)])
      clear hkn
      by_cases hkp : keep < 0 ∨ 100000 < keep
      · have HF : Hid (unitsF l keep = 1) := hide (unitsF_keep HN.out HA2.out hkp)
        have HL := hide (unitsL_none (l := l) (keep := keep) (by rw [HF.out]; decide))
        generalize (l.take k).sum = s at *
        go_wp2_with (first | ((go_at_call 92; with_reducible refine (within_yes ?_ _).mono ?_); (focus omega); rintro e w' ⟨rfl, rfl⟩) | ((go_at_call 92; with_reducible refine (within_no ?_ _).mono ?_); (focus omega); rintro e w' ⟨rfl, rfl⟩))
        go_ret2
        exact gives_nil' HF.out HL.out (by repeat' (first | (with_reducible exact Below.refl _ _) | (with_reducible assumption) | (with_reducible refine below_drewN ?_ _) | (with_reducible refine Below.drew ?_) | (with_reducible refine ext_alloc ?_ _) | (with_reducible refine Below.setCell ?_ ?_ _) | go_size))
      rw [HSM.out]
      obtain ⟨s0, s1⟩ := sum_take_bd (l := l) k HA.out (by have := HLN.out; omega)
      rw [HSM.out] at s0 s1
      clear HSM
      by_cases hsm : 100000 < l.sum
      · have HF : Hid (unitsF l keep = 2) := hide (unitsF_sum HN.out HA2.out hkp hsm)
        have HL := hide (unitsL_none (l := l) (keep := keep) (by rw [HF.out]; decide))
        generalize l.sum = s at *
        have hkp' : 0 ≤ keep ∧ keep ≤ 100000 := by omega
        clear hkp
        go_wp2_with (first | ((go_at_call 92; with_reducible refine (within_yes ?_ _).mono ?_); (focus omega); rintro e w' ⟨rfl, rfl⟩) | ((go_at_call 92; with_reducible refine (within_no ?_ _).mono ?_); (focus omega); rintro e w' ⟨rfl, rfl⟩))
        go_ret2
        exact gives_nil' HF.out HL.out (by repeat' (first | (with_reducible exact Below.refl _ _) | (with_reducible assumption) | (with_reducible refine below_drewN ?_ _) | (with_reducible refine Below.drew ?_) | (with_reducible refine ext_alloc ?_ _) | (with_reducible refine Below.setCell ?_ ?_ _) | go_size))
      have HF : Hid (unitsF l keep = 0) := hide (unitsF_ok HN.out HA2.out hkp hsm)
      have HL : Hid (unitsL l keep = l.map (unitX keep)) := hide (by unfold unitsL; rw [if_neg (by rw [HF.out]; decide)])
      generalize l.sum = s at *
      have hkp' : 0 ≤ keep ∧ keep ≤ 100000 := by omega
      have hsm' : s ≤ 100000 := by omega
      clear hkp hsm
      go_wp2_with (first | ((go_at_call 92; with_reducible refine (within_yes ?_ _).mono ?_); (focus omega); rintro e w' ⟨rfl, rfl⟩) | ((go_at_call 92; with_reducible refine (within_no ?_ _).mono ?_); (focus omega); rintro e w' ⟨rfl, rfl⟩))
      go_loopw [9, 36] (fun ro ri wr => ∃ j : Nat, j ≤ n ∧ ri = .int .i64 j ∧ Hid (Own wr w.heap.size 49 2 e2 ro ((l.map (unitX keep)).take j)) ∧ Hid (Ext w wr)) (fun _ ri _ => n - (intOf ri).toNat)
      case atStart => exact ⟨0, by omega, rfl, hide (Own.nil _ _ _ _ _), hide (Ext.refl _)⟩
      case round =>
        obtain ⟨j, hj, rfl, HO, HX⟩ := hrel
        by_cases hlj : j < n
        · obtain ⟨b, off, rfl, _⟩ := H.out.addr (by omega)
          have a1 := (H.out.ext HX.out).num hlj
          obtain ⟨g1, g2⟩ := HA2.out j (by have := HLN.out; omega)
          have HT : Hid ((l.map (unitX keep)).take (j + 1) = (l.map (unitX keep)).take j ++ [unitX keep (l.getD j 0)]) := hide (by rw [getD_take (l.map (unitX keep)) j (unitX keep 0) (by rw [List.length_map]; have := HLN.out; omega)]; simp [List.getD, show j < l.length by have := HLN.out; omega])
          generalize l.getD j 0 = y at *
          obtain ⟨q1, q2⟩ := unitP_bd keep y (by omega) (by omega) (by omega)
          have hq : Hid (max 0 (y - keep) / 8 * 8 = unitP keep y) := hide rfl
          have A7 := hide (At.pair1 wr (y - max 0 (y - keep) / 8 * 8) (max 0 (y - keep) / 8 * 8) 49)
          have O7 := hide (HO.out.ext (Ext.alloc wr (.cells #[.int .i64 (y - max 0 (y - keep) / 8 * 8), .int .i64 (max 0 (y - keep) / 8 * 8)] 49)))
          have E7 := hide (ext_alloc HX.out (.cells #[.int .i64 (y - max 0 (y - keep) / 8 * 8), .int .i64 (max 0 (y - keep) / 8 * 8)] 49))
          have z7 := E7.out.size
          have hl7 : Hid (((l.map (unitX keep)).take j).length = j) := hide (by rw [List.length_take, List.length_map, HLN.out]; omega)
          clear HO HX
          go_wp2_with (at_builtin; refine wpList_append_at _ rfl (.tmp 46) (.tmp 52) 44 rfl w.heap.size 49 i0 _ 16 Try.underlying44 hi0 hz0 hz1 hz2 rfl (by omega) len_e2 one_e2 _ ((l.map (unitX keep)).take j) rfl O7.out (some ⟨wr.heap.size, 0, none⟩) 1 1 [(y - max 0 (y - keep) / 8 * 8, max 0 (y - keep) / 8 * 8)] rfl A7.out ?d1 ?d2 ?d3 ?_)
          case d1 => rw [hl7.out]; unfold maxLen; omega
          case d2 => rw [hl7.out]; omega
          case d3 => exact z7
          intro v8 w8 o8 g8 _ _
          have o8' : Own w8 w.heap.size 49 2 e2 v8 ((l.map (unitX keep)).take (j + 1)) := by rw [HT.out]; exact o8
          have O8 := hide o8'
          have E8 : Hid (Ext w w8) := hide (O7.out.below E7.out g8 (Nat.le_refl _))
          clear o8 o8' g8 O7 E7 z7 A7
          go_wp2
          go_roundw
          case rel =>
            first
              | exact ⟨j + 1, by omega, by go_num, O8, E8⟩
              | ((repeat apply Exists.intro); exact ⟨⟨j + 1, by omega, by go_num, O8, E8⟩, rfl⟩)
          case measure => simp [intOf]; omega
        · obtain ⟨A9, c9, hv9, a9⟩ := HO.out.at_ len_e2
          have hll : Hid ((l.map (unitX keep)).take j = unitsL l keep) := hide (by rw [HL.out, List.take_of_length_le (by rw [List.length_map]; have := HLN.out; omega)])
          rw [hv9]
          have HV := hide a9
          clear hv9 a9 HO
          go_wp2
          go_ret2
          exact gives_at HF.out hll.out HV.out HX.out
end Go.Proofs.Ytifmgngmkajahaa
