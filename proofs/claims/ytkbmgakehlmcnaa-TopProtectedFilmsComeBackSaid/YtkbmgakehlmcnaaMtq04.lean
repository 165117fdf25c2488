/- Several texts in one: Walks: subsFault, checkSubs, Fewer (both), Equal of lists of pairs. Conditions: none; Walks: Fewer (both). Conditions: none; Plain law: spans that are added one by one are the runs of the positions that they hold. Conditions as stated; Walks: CheckScheme, listFault and checkList, parts (both). Conditions as stated. -/
import Derived.Test.YtkbmgakehlmcnaaMtq03
import Derived.Test.YtkbmgakehlmcnaaMtq00
namespace Go.Proofs.Ytkbmgakehlmcnaa
open Go.RowKit
def subEl (l : List (Int × Int)) (i : Nat) : Int :=
  if (l.getD i (0, 0)).1 < 0 ∨ 100000 < (l.getD i (0, 0)).1 ∨ (l.getD i (0, 0)).2 < 0 ∨ 100000 < (l.getD i (0, 0)).2 then 1
  else if (l.getD i (0, 0)).1 = 0 ∧ (l.getD i (0, 0)).2 = 0 then 3 else 0
def subsF (l : List (Int × Int)) : Int := if 500 < l.length then 2 else firstF (subEl l) l.length
theorem subEl_zero {l : List (Int × Int)} {i : Nat} (h : subEl l i = 0) : (0 ≤ (l.getD i (0, 0)).1 ∧ (l.getD i (0, 0)).1 ≤ 100000) ∧ (0 ≤ (l.getD i (0, 0)).2 ∧ (l.getD i (0, 0)).2 ≤ 100000) ∧ ¬ ((l.getD i (0, 0)).1 = 0 ∧ (l.getD i (0, 0)).2 = 0) := by
  unfold subEl at h
  split at h
  · omega
  · split at h
    · omega
    · exact ⟨by omega, by omega, by assumption⟩
theorem subsF_zero {l : List (Int × Int)} (h : subsF l = 0) : l.length ≤ 500 ∧ ∀ j, j < l.length → subEl l j = 0 := by
  unfold subsF at h
  split at h
  · omega
  · exact ⟨by omega, firstF_all h⟩
set_option maxRecDepth 100000 in
set_option maxHeartbeats 4000000 in
theorem keySubs_any {A : Option Addr} {n c : Nat} {l : List (Int × Int)} {w : World} (h : At w 2 e2 A n c l) :
    Calls Try.prog 67 #[.slice A n c] w fun e w' => e = .returned (.int .i64 (subsF l)) ∧ Ext w w' := by
  have hb := h.bound
  have hl := h.len
  have H := hide h
  by_cases h5 : 500 < n
  · have HF : Hid (subsF l = 2) := hide (by unfold subsF; rw [if_pos (by omega)])
    clear hl h
    go_enter Try.func67, Try.ntmps67
    go_wp2_with fail
    go_ret
    exact ⟨ret_int HF.out.symm, (by repeat' (first | (with_reducible first | exact Below.refl _ _ | assumption | refine below_drewN ?_ _ | refine Below.drew ?_ | refine ext_alloc ?_ _ | refine Below.setCell ?_ ?_ _) | go_size))⟩
  have h5' : n ≤ 500 := by omega
  have HL := hide hl
  have HB : Hid (∀ i, i < n → (∀ j, j < i → subEl l j = 0) → subEl l i ≠ 0 → subsF l = subEl l i) := hide (fun i hi ha hb => by
    unfold subsF; rw [if_neg (by omega)]; exact firstF_at ha hb (by omega))
  have HZ : Hid ((∀ j, j < n → subEl l j = 0) → subsF l = 0) := hide (fun ha => by
    unfold subsF; rw [if_neg (by omega)]; exact firstF_zero (fun j hj => ha j (by omega)))
  have HEL : Hid (∀ i, subEl l i = if (l.getD i (0, 0)).1 < 0 ∨ 100000 < (l.getD i (0, 0)).1 ∨ (l.getD i (0, 0)).2 < 0 ∨ 100000 < (l.getD i (0, 0)).2 then 1
      else if (l.getD i (0, 0)).1 = 0 ∧ (l.getD i (0, 0)).2 = 0 then 3 else 0) := hide (fun _ => rfl)
  clear hl h h5
  go_enter Try.func67, Try.ntmps67
  go_wp2_with fail
  go_loopw [10] (fun ri wr => ∃ k : Nat, k ≤ n ∧ ri = .int .i64 k ∧ Hid (∀ j, j < k → subEl l j = 0) ∧ Hid (Ext w wr)) (fun ri _ => n - (intOf ri).toNat)
  case atStart => exact ⟨0, by omega, rfl, hide (fun j hj => by omega), hide (Ext.refl _)⟩
  case round =>
    obtain ⟨k, hk, rfl, HA, HX⟩ := hrel
    by_cases hlt : k < n
    · obtain ⟨b, off, rfl, _⟩ := H.out.addr (by omega)
      obtain ⟨a1, a2⟩ := (H.out.ext HX.out).pair hlt
      have hel := HEL.out k
      have HR : Hid (subEl l k ≠ 0 → subsF l = subEl l k) := hide (HB.out k hlt HA.out)
      have HG : Hid (subEl l k = 0 → ∀ j, j < k + 1 → subEl l j = 0) := hide (fun h0 j hj => by
        rcases Nat.lt_succ_iff_lt_or_eq.1 hj with h | h
        · exact HA.out j h
        · rw [h]; exact h0)
      generalize subEl l k = fl at *
      generalize (l.getD k (0, 0)).1 = y0 at *
      generalize (l.getD k (0, 0)).2 = y1 at *
      by_cases hA : y0 < 0 ∨ 100000 < y0 ∨ y1 < 0 ∨ 100000 < y1
      · rw [if_pos hA] at hel
        have HF : Hid (subsF l = 1) := hide (by rw [HR.out (by omega), hel])
        clear hel HR HG
        by_cases hA1 : 0 ≤ y0 ∧ y0 ≤ 100000
        · go_wp2_with (first | ((go_at_call 14; with_reducible refine (out_no ?_ _).mono ?_); (focus omega); rintro e w' ⟨rfl, rfl⟩) | ((go_at_call 14; with_reducible refine (out_yes ?_ _).mono ?_); (focus omega); rintro e w' ⟨rfl, rfl⟩))
          go_ret
          exact ⟨ret_int HF.out.symm, Ext.trans HX.out (by repeat' (first | (with_reducible first | exact Below.refl _ _ | assumption | refine below_drewN ?_ _ | refine Below.drew ?_ | refine ext_alloc ?_ _ | refine Below.setCell ?_ ?_ _) | go_size))⟩
        · go_wp2_with (first | ((go_at_call 14; with_reducible refine (out_no ?_ _).mono ?_); (focus omega); rintro e w' ⟨rfl, rfl⟩) | ((go_at_call 14; with_reducible refine (out_yes ?_ _).mono ?_); (focus omega); rintro e w' ⟨rfl, rfl⟩))
          go_ret
          exact ⟨ret_int HF.out.symm, Ext.trans HX.out (by repeat' (first | (with_reducible first | exact Below.refl _ _ | assumption | refine below_drewN ?_ _ | refine Below.drew ?_ | refine ext_alloc ?_ _ | refine Below.setCell ?_ ?_ _) | go_size))⟩
      rw [if_neg hA] at hel
      have hA1 : 0 ≤ y0 ∧ y0 ≤ 100000 := by omega
      have hA2 : 0 ≤ y1 ∧ y1 ≤ 100000 := by omega
      clear hA
      by_cases hC : y0 = 0 ∧ y1 = 0
      · rw [if_pos hC] at hel
        have HF : Hid (subsF l = 3) := hide (by rw [HR.out (by omega), hel])
        have i1 : (y0 == 0) = true := by simp [hC.1]
        have i2 : (y1 == 0) = true := by simp [hC.2]
        clear hel HR HG hC
        go_wp2_with (first | ((go_at_call 14; with_reducible refine (out_no ?_ _).mono ?_); (focus omega); rintro e w' ⟨rfl, rfl⟩) | ((go_at_call 14; with_reducible refine (out_yes ?_ _).mono ?_); (focus omega); rintro e w' ⟨rfl, rfl⟩))
        go_ret
        exact ⟨ret_int HF.out.symm, Ext.trans HX.out (by repeat' (first | (with_reducible first | exact Below.refl _ _ | assumption | refine below_drewN ?_ _ | refine Below.drew ?_ | refine ext_alloc ?_ _ | refine Below.setCell ?_ ?_ _) | go_size))⟩
      · rw [if_neg hC] at hel
        have HA2 : Hid (∀ j, j < k + 1 → subEl l j = 0) := hide (HG.out hel)
        by_cases hC1 : y0 = 0
        · have i1 : (y0 == 0) = true := by simp [hC1]
          have i2 : (y1 == 0) = false := by simp; omega
          clear hel HR HG hC hC1
          go_wp2_with (first | ((go_at_call 14; with_reducible refine (out_no ?_ _).mono ?_); (focus omega); rintro e w' ⟨rfl, rfl⟩) | ((go_at_call 14; with_reducible refine (out_yes ?_ _).mono ?_); (focus omega); rintro e w' ⟨rfl, rfl⟩))
          go_roundw
          case rel =>
            first
              | exact ⟨k + 1, by omega, by go_num, HA2, Ext.trans HX.out (by repeat' (first | (with_reducible first | exact Below.refl _ _ | assumption | refine below_drewN ?_ _ | refine Below.drew ?_ | refine ext_alloc ?_ _ | refine Below.setCell ?_ ?_ _) | go_size))⟩
              | ((repeat apply Exists.intro); exact ⟨⟨k + 1, by omega, by go_num, HA2, Ext.trans HX.out (by repeat' (first | (with_reducible first | exact Below.refl _ _ | assumption | refine below_drewN ?_ _ | refine Below.drew ?_ | refine ext_alloc ?_ _ | refine Below.setCell ?_ ?_ _) | go_size))⟩, rfl⟩)
          case measure => simp [intOf]; omega
        · have i1 : (y0 == 0) = false := by simp [hC1]
          clear hel HR HG hC hC1
          go_wp2_with (first | ((go_at_call 14; with_reducible refine (out_no ?_ _).mono ?_); (focus omega); rintro e w' ⟨rfl, rfl⟩) | ((go_at_call 14; with_reducible refine (out_yes ?_ _).mono ?_); (focus omega); rintro e w' ⟨rfl, rfl⟩))
          go_roundw
          case rel =>
            first
              | exact ⟨k + 1, by omega, by go_num, HA2, Ext.trans HX.out (by repeat' (first | (with_reducible first | exact Below.refl _ _ | assumption | refine below_drewN ?_ _ | refine Below.drew ?_ | refine ext_alloc ?_ _ | refine Below.setCell ?_ ?_ _) | go_size))⟩
              | ((repeat apply Exists.intro); exact ⟨⟨k + 1, by omega, by go_num, HA2, Ext.trans HX.out (by repeat' (first | (with_reducible first | exact Below.refl _ _ | assumption | refine below_drewN ?_ _ | refine Below.drew ?_ | refine ext_alloc ?_ _ | refine Below.setCell ?_ ?_ _) | go_size))⟩, rfl⟩)
          case measure => simp [intOf]; omega
    · have HF : Hid (subsF l = 0) := hide (HZ.out (fun j hj => HA.out j (by omega)))
      go_wp2
      go_ret
      exact ⟨ret_int HF.out.symm, HX.out⟩
theorem foldl_take {α β : Type} (f : β → α → β) (b : β) (l : List α) (k : Nat) (d : α) (h : k < l.length) : (l.take (k + 1)).foldl f b = f ((l.take k).foldl f b) (l.getD k d) := by
  rw [getD_take l k d h, List.foldl_append]; rfl
end Go.Proofs.Ytkbmgakehlmcnaa
namespace Go.Proofs.Ytkbmgakehlmcnaa
def chainS : Int → List (Int × Int) → Prop
  | _, [] => True
  | lo, s :: r => lo ≤ s.1 ∧ s.1 ≤ s.2 ∧ chainS s.2 r
theorem chainS_ge : ∀ (S : List (Int × Int)) {lo : Int}, chainS lo S → ∀ s ∈ S, lo ≤ s.1 ∧ s.1 ≤ s.2
  | [], _, _, s, hs => by simp at hs
  | t :: r, lo, ⟨h1, h2, h3⟩, s, hs => by
    rcases List.mem_cons.1 hs with rfl | hs
    · exact ⟨h1, h2⟩
    · have := chainS_ge r h3 s hs
      omega
def endSK : Int → List (Int × Int) → Int
  | lo, [] => lo
  | _, s :: r => endSK s.2 r
theorem chainS_app : ∀ (A B : List (Int × Int)) {lo : Int}, chainS lo A → chainS (endSK lo A) B → chainS lo (A ++ B)
  | [], _, _, _, h => h
  | _ :: r, B, _, ⟨h1, h2, h3⟩, h => ⟨h1, h2, chainS_app r B h3 h⟩
theorem endS_app : ∀ (A B : List (Int × Int)) (lo : Int), endSK lo (A ++ B) = endSK (endSK lo A) B
  | [], _, _ => rfl
  | s :: r, B, _ => endS_app r B s.2
end Go.Proofs.Ytkbmgakehlmcnaa
namespace Go.Proofs.Ytkbmgakehlmcnaa
open Go.RowKit
abbrev schV (m c s : Int) : Value := .agg #[.int .i64 m, .int .i64 c, .int .i64 s]
def schF (m c s : Int) : Int :=
  if m ≠ 1 ∧ m ≠ 2 then 4 else if m = 1 ∧ (c ≠ 0 ∨ s ≠ 0) then 3 else if c < 0 ∨ 10 < c ∨ s < 0 ∨ 10 < s then 1 else if c = 0 ∧ s ≠ 0 then 3 else 0
theorem schF_zero {m c s : Int} (h : schF m c s = 0) : (m = 1 ∨ m = 2) ∧ (m = 1 → c = 0 ∧ s = 0) ∧ (0 ≤ c ∧ c ≤ 10) ∧ (0 ≤ s ∧ s ≤ 10) ∧ (c = 0 → s = 0) := by
  unfold schF at h
  split at h
  · omega
  · split at h
    · omega
    · split at h
      · omega
      · split at h
        · omega
        · refine ⟨by omega, by omega, by omega, by omega, by omega⟩
set_option maxHeartbeats 2000000 in
theorem keyScheme_any (m c s : Int) (w : World) :
    Calls Try.prog 39 #[schV m c s] w fun e w' => e = .returned (.int .i64 (schF m c s)) ∧ Ext w w' := by
  unfold schF
  by_cases hm : m ≠ 1 ∧ m ≠ 2
  · rw [if_pos hm]
    obtain ⟨h1, h2⟩ := hm
    have i1 : (m != 1) = true := by simpa using h1
    have i2 : (m != 2) = true := by simpa using h2
    clear h1 h2
    go_enter Try.func39, Try.ntmps39
    go_wp2_with (first | ((go_at_call 14; with_reducible refine (out_no ?_ _).mono ?_); (focus omega); rintro e w' ⟨rfl, rfl⟩) | ((go_at_call 14; with_reducible refine (out_yes ?_ _).mono ?_); (focus omega); rintro e w' ⟨rfl, rfl⟩))
    go_ret
    exact ⟨rfl, (by repeat' (first | (with_reducible first | exact Below.refl _ _ | assumption | refine below_drewN ?_ _ | refine Below.drew ?_ | refine ext_alloc ?_ _ | refine Below.setCell ?_ ?_ _) | go_size))⟩
  rw [if_neg hm]
  by_cases h1 : m = 1
  · subst h1
    clear hm
    by_cases hc : c = 0
    · subst hc
      by_cases hs : s = 0
      · subst hs
        rw [if_neg (by omega), if_neg (by omega), if_neg (by omega)]
        go_enter Try.func39, Try.ntmps39
        go_wp2_with (first | ((go_at_call 14; with_reducible refine (out_no ?_ _).mono ?_); (focus omega); rintro e w' ⟨rfl, rfl⟩) | ((go_at_call 14; with_reducible refine (out_yes ?_ _).mono ?_); (focus omega); rintro e w' ⟨rfl, rfl⟩))
        go_ret
        exact ⟨rfl, (by repeat' (first | (with_reducible first | exact Below.refl _ _ | assumption | refine below_drewN ?_ _ | refine Below.drew ?_ | refine ext_alloc ?_ _ | refine Below.setCell ?_ ?_ _) | go_size))⟩
      · rw [if_pos ⟨rfl, .inr hs⟩]
        have i1 : (s != 0) = true := by simpa using hs
        clear hs
        go_enter Try.func39, Try.ntmps39
        go_wp2_with (first | ((go_at_call 14; with_reducible refine (out_no ?_ _).mono ?_); (focus omega); rintro e w' ⟨rfl, rfl⟩) | ((go_at_call 14; with_reducible refine (out_yes ?_ _).mono ?_); (focus omega); rintro e w' ⟨rfl, rfl⟩))
        go_ret
        exact ⟨rfl, (by repeat' (first | (with_reducible first | exact Below.refl _ _ | assumption | refine below_drewN ?_ _ | refine Below.drew ?_ | refine ext_alloc ?_ _ | refine Below.setCell ?_ ?_ _) | go_size))⟩
    · rw [if_pos ⟨rfl, .inl hc⟩]
      have i1 : (c != 0) = true := by simpa using hc
      clear hc
      go_enter Try.func39, Try.ntmps39
      go_wp2_with (first | ((go_at_call 14; with_reducible refine (out_no ?_ _).mono ?_); (focus omega); rintro e w' ⟨rfl, rfl⟩) | ((go_at_call 14; with_reducible refine (out_yes ?_ _).mono ?_); (focus omega); rintro e w' ⟨rfl, rfl⟩))
      go_ret
      exact ⟨rfl, (by repeat' (first | (with_reducible first | exact Below.refl _ _ | assumption | refine below_drewN ?_ _ | refine Below.drew ?_ | refine ext_alloc ?_ _ | refine Below.setCell ?_ ?_ _) | go_size))⟩
  · have h2 : m = 2 := by omega
    subst h2
    clear hm h1
    rw [if_neg (by omega)]
    by_cases hc : 0 ≤ c ∧ c ≤ 10
    · by_cases hs : 0 ≤ s ∧ s ≤ 10
      · rw [if_neg (by omega)]
        by_cases hc0 : c = 0
        · subst hc0
          by_cases hs0 : s = 0
          · subst hs0
            rw [if_neg (by omega)]
            go_enter Try.func39, Try.ntmps39
            go_wp2_with (first | ((go_at_call 14; with_reducible refine (out_no ?_ _).mono ?_); (focus omega); rintro e w' ⟨rfl, rfl⟩) | ((go_at_call 14; with_reducible refine (out_yes ?_ _).mono ?_); (focus omega); rintro e w' ⟨rfl, rfl⟩))
            go_ret
            exact ⟨rfl, (by repeat' (first | (with_reducible first | exact Below.refl _ _ | assumption | refine below_drewN ?_ _ | refine Below.drew ?_ | refine ext_alloc ?_ _ | refine Below.setCell ?_ ?_ _) | go_size))⟩
          · rw [if_pos ⟨rfl, hs0⟩]
            have i1 : (s != 0) = true := by simpa using hs0
            clear hs0
            go_enter Try.func39, Try.ntmps39
            go_wp2_with (first | ((go_at_call 14; with_reducible refine (out_no ?_ _).mono ?_); (focus omega); rintro e w' ⟨rfl, rfl⟩) | ((go_at_call 14; with_reducible refine (out_yes ?_ _).mono ?_); (focus omega); rintro e w' ⟨rfl, rfl⟩))
            go_ret
            exact ⟨rfl, (by repeat' (first | (with_reducible first | exact Below.refl _ _ | assumption | refine below_drewN ?_ _ | refine Below.drew ?_ | refine ext_alloc ?_ _ | refine Below.setCell ?_ ?_ _) | go_size))⟩
        · rw [if_neg (by omega)]
          have i1 : (c == 0) = false := by simpa using hc0
          clear hc0
          go_enter Try.func39, Try.ntmps39
          go_wp2_with (first | ((go_at_call 14; with_reducible refine (out_no ?_ _).mono ?_); (focus omega); rintro e w' ⟨rfl, rfl⟩) | ((go_at_call 14; with_reducible refine (out_yes ?_ _).mono ?_); (focus omega); rintro e w' ⟨rfl, rfl⟩))
          go_ret
          exact ⟨rfl, (by repeat' (first | (with_reducible first | exact Below.refl _ _ | assumption | refine below_drewN ?_ _ | refine Below.drew ?_ | refine ext_alloc ?_ _ | refine Below.setCell ?_ ?_ _) | go_size))⟩
      · rw [if_pos (by omega)]
        go_enter Try.func39, Try.ntmps39
        go_wp2_with (first | ((go_at_call 14; with_reducible refine (out_no ?_ _).mono ?_); (focus omega); rintro e w' ⟨rfl, rfl⟩) | ((go_at_call 14; with_reducible refine (out_yes ?_ _).mono ?_); (focus omega); rintro e w' ⟨rfl, rfl⟩))
        go_ret
        exact ⟨rfl, (by repeat' (first | (with_reducible first | exact Below.refl _ _ | assumption | refine below_drewN ?_ _ | refine Below.drew ?_ | refine ext_alloc ?_ _ | refine Below.setCell ?_ ?_ _) | go_size))⟩
    · rw [if_pos (by omega)]
      go_enter Try.func39, Try.ntmps39
      go_wp2_with (first | ((go_at_call 14; with_reducible refine (out_no ?_ _).mono ?_); (focus omega); rintro e w' ⟨rfl, rfl⟩) | ((go_at_call 14; with_reducible refine (out_yes ?_ _).mono ?_); (focus omega); rintro e w' ⟨rfl, rfl⟩))
      go_ret
      exact ⟨rfl, (by repeat' (first | (with_reducible first | exact Below.refl _ _ | assumption | refine below_drewN ?_ _ | refine Below.drew ?_ | refine ext_alloc ?_ _ | refine Below.setCell ?_ ?_ _) | go_size))⟩
def sumS (l : List (Int × Int)) : Int := l.foldl (fun a x => a + (x.1 + x.2)) 0
def listF (l : List (Int × Int)) (z : Int) : Int := if subsF l ≠ 0 then subsF l else if 0 < l.length ∧ sumS l ≠ z then 3 else 0
theorem sumS_bd {l : List (Int × Int)} (h : ∀ j, j < l.length → subEl l j = 0) : ∀ k, k ≤ l.length → 0 ≤ sumS (l.take k) ∧ sumS (l.take k) ≤ 200000 * (k : Int)
  | 0, _ => by simp [sumS]
  | k + 1, hk => by
    have ih := sumS_bd h k (by omega)
    obtain ⟨e1, e2, e3⟩ := subEl_zero (h k (by omega))
    unfold sumS at *
    rw [foldl_take _ _ _ _ (0, 0) (by omega)]
    omega
set_option maxRecDepth 100000 in
set_option maxHeartbeats 2000000 in
theorem keyList_any {A : Option Addr} {n c : Nat} {l : List (Int × Int)} {w : World} (h : At w 2 e2 A n c l) (z : Int) :
    Calls Try.prog 41 #[.slice A n c, .int .i64 z] w fun e w' => e = .returned (.int .i64 (listF l z)) ∧ Ext w w' := by
  have hb := h.bound
  have hl := hide h.len
  have HC := hide (fun W (hx : Ext w W) => keySubs_any (h.ext hx))
  have H := hide h
  clear h
  by_cases hz : subsF l = 0
  rotate_left
  · have hf : listF l z = subsF l := by unfold listF; rw [if_pos hz]
    rw [hf]
    have hb2 : (subsF l != 0) = true := by rw [bne_iff_ne]; exact hz
    generalize subsF l = r at *
    clear hz hf
    go_enter Try.func41, Try.ntmps41
    go_wp2_with (first | ((go_at_call 67; refine (HC.out _ (Ext.refl _)).mono ?_); rintro e w1 ⟨rfl, e1⟩))
    go_ret
    exact ⟨rfl, e1⟩
  obtain ⟨hn5, hall⟩ := subsF_zero hz
  have hn : n ≤ 500 := by have := hl.out; omega
  have HALL := hide hall
  have HF := hide (show listF l z = if 0 < n ∧ sumS l ≠ z then 3 else 0 by unfold listF; rw [if_neg (by omega), hl.out])
  have HS := hide (sumS_bd hall)
  rw [hz] at HC
  clear hz hall hn5
  go_enter Try.func41, Try.ntmps41
  go_wp2_with (first | ((go_at_call 67; refine (HC.out _ (Ext.refl _)).mono ?_); rintro e w1 ⟨rfl, e1⟩; have E1 := hide e1; clear e1))
  go_loopw [6, 16] (fun ra ri wr => ∃ (k : Nat) (a : Int), k ≤ n ∧ ri = .int .i64 k ∧ ra = .int .i64 a ∧ 0 ≤ a ∧ a ≤ 200000 * (k : Int) ∧ Hid (a = sumS (l.take k)) ∧ Hid (Ext w wr)) (fun _ ri _ => n - (intOf ri).toNat)
  case atStart => exact ⟨0, 0, by omega, rfl, rfl, by omega, by omega, hide rfl, E1⟩
  case round =>
    obtain ⟨k, a, hk, rfl, rfl, hc0, hc1, HA, HX⟩ := hrel
    have hlen := hl.out
    by_cases hlt : k < n
    · obtain ⟨b, off, rfl, _⟩ := H.out.addr (by omega)
      obtain ⟨a1, a2⟩ := (H.out.ext HX.out).pair hlt
      obtain ⟨e1, e2', e3⟩ := subEl_zero (HALL.out k (by omega))
      have hst : sumS (l.take (k + 1)) = a + ((l.getD k (0, 0)).1 + (l.getD k (0, 0)).2) := by rw [HA.out]; unfold sumS; rw [foldl_take _ _ _ _ (0, 0) (by omega)]
      have HST := hide hst
      generalize (l.getD k (0, 0)).1 = y0 at *
      generalize (l.getD k (0, 0)).2 = y1 at *
      clear hst hlen
      go_wp2_with fail
      go_roundw
      case rel =>
        first
          | exact ⟨k + 1, a + (y0 + y1), by omega, by go_num, rfl, by omega, by omega, hide HST.out.symm, Ext.trans HX.out (by repeat' (first | (with_reducible first | exact Below.refl _ _ | assumption | refine below_drewN ?_ _ | refine Below.drew ?_ | refine ext_alloc ?_ _ | refine Below.setCell ?_ ?_ _) | go_size))⟩
          | ((repeat apply Exists.intro); exact ⟨⟨k + 1, a + (y0 + y1), by omega, by go_num, rfl, by omega, by omega, hide HST.out.symm, Ext.trans HX.out (by repeat' (first | (with_reducible first | exact Below.refl _ _ | assumption | refine below_drewN ?_ _ | refine Below.drew ?_ | refine ext_alloc ?_ _ | refine Below.setCell ?_ ?_ _) | go_size))⟩, rfl⟩)
      case measure => simp [intOf]; omega
    · have hs : a = sumS l := by rw [HA.out, List.take_of_length_le (by omega)]
      have hf := HF.out
      rw [← hs] at hf
      clear hs hlen HA
      by_cases hn0 : 0 < n
      · by_cases hza : a = z
        · rw [if_neg (by omega)] at hf
          have HQ := hide hf
          have i1 : (a != z) = false := by simp [hza]
          have i2 : (0 : Int) < (n : Int) := by omega
          clear hf hza
          go_wp2_with fail
          go_ret
          exact ⟨ret_int HQ.out.symm, HX.out⟩
        · rw [if_pos ⟨hn0, hza⟩] at hf
          have HQ := hide hf
          have i1 : (a != z) = true := by simp [hza]
          have i2 : (0 : Int) < (n : Int) := by omega
          clear hf hza
          go_wp2_with fail
          go_ret
          exact ⟨ret_int HQ.out.symm, HX.out⟩
      · rw [if_neg (by omega)] at hf
        have HQ := hide hf
        have i2 : ¬ (0 : Int) < (n : Int) := by omega
        clear hf
        go_wp2_with fail
        go_ret
        exact ⟨ret_int HQ.out.symm, HX.out⟩
end Go.Proofs.Ytkbmgakehlmcnaa
