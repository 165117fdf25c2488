/- Several texts in one: Walks: slices.IndexFunc and slices.ContainsFunc of numbers, with a predicate that leaves all as it is; CheckFilm's two predicates. Conditions as stated; Walks: sum (both). Conditions: the numbers are from 0 to 1000000000, at most 200 of them. -/
import Derived.Test.YtfelgolfebhmkaaDoorMtm19
import Derived.Test.YtfelgolfebhmkaaDoorMtm01
import Derived.Shelf.Abstract
namespace Go.Proofs.YtfelgolfebhmkaaDoor
open Go.RowKit
def idxI (p : Int → Bool) (l : List Int) : Int := match l.findIdx? p with | some i => (i : Int) | none => -1
theorem idxI_at {p : Int → Bool} {l : List Int} {k : Nat} (hk : k < l.length) (h : p (l.getD k 0) = true) (ha : ∀ j, j < k → p (l.getD j 0) = false) : idxI p l = k := by
  unfold idxI
  have : l.findIdx? p = some k := by
    rw [List.findIdx?_eq_some_iff_getElem]
    refine ⟨hk, by simpa [List.getD, hk] using h, fun j hj => ?_⟩
    have := ha j hj
    have hjl : j < l.length := by omega
    simpa [List.getD, hjl] using this
  rw [this]
theorem idxI_no {p : Int → Bool} {l : List Int} (ha : ∀ j, j < l.length → p (l.getD j 0) = false) : idxI p l = -1 := by
  unfold idxI
  have : l.findIdx? p = none := by
    rw [List.findIdx?_eq_none_iff]
    intro x hx
    obtain ⟨j, hj, rfl⟩ := mem_getD 0 hx
    exact ha j hj
  rw [this]
theorem idxI_any (p : Int → Bool) (l : List Int) : decide (0 ≤ idxI p l) = l.any p := by
  unfold idxI
  cases h : l.findIdx? p with
  | none =>
    rw [List.findIdx?_eq_none_iff] at h
    rw [show l.any p = false by rw [List.any_eq_false]; intro x hx; rw [h x hx]; simp]
    rfl
  | some i =>
    rw [List.findIdx?_eq_some_iff_getElem] at h
    obtain ⟨hi, hp, _⟩ := h
    rw [show l.any p = true by rw [List.any_eq_true]; exact ⟨_, List.getElem_mem hi, hp⟩]
    simp
set_option maxHeartbeats 1000000 in
theorem idx_any {g : Nat} {p : Int → Bool} (eg : ∀ args w, (callFunc g args).run Tryd.prog w = .ok (.enter g args) w) (hp : ∀ (x : Int) (W : World), Calls Tryd.prog g #[.int .i64 x] W fun e w' => e = .returned (.bool (p x)) ∧ W = w')
    {A : Option Addr} {n c : Nat} {l : List Int} {w : World} (h : At w 1 e64 A n c l) :
    Calls Tryd.prog 42 #[.slice A n c, .func (.func g) #[] #[]] w fun e w' => e = .returned (.int .i64 (idxI p l)) ∧ w = w' := by
  have hb := h.bound
  have hl := h.len
  have H := hide h
  have HY := hide (fun k (hk : k < n) (hq : p (l.getD k 0) = true) ha => idxI_at (p := p) (l := l) (k := k) (by omega) hq ha)
  have HN := hide (fun ha => idxI_no (p := p) (l := l) ha)
  have HP := hide hp
  have HL := hide hl
  clear h hl hp
  go_enter Tryd.func42, Tryd.ntmps42
  go_wp2
  go_loop [5, 8] (fun _ ri => ∃ k : Nat, k ≤ n ∧ ri = .int .i64 k ∧ Hid (∀ j, j < k → p (l.getD j 0) = false)) (fun _ i => n - (intOf i).toNat)
  case atStart => exact ⟨0, by omega, rfl, hide (fun j hj => by omega)⟩
  case round =>
    obtain ⟨k, hk, rfl, HA⟩ := hrel
    by_cases hlt : k < n
    · obtain ⟨b, off, rfl, _⟩ := H.out.addr (by omega)
      have a1 := H.out.num hlt
      have hq := HY.out k hlt
      have HC := hide (HP.out (l.getD k 0))
      generalize hy : l.getD k 0 = y at *
      cases hpy : p y with
      | true =>
        have HF := hide (hq hpy HA.out)
        rw [hpy] at HC
        clear hq hy
        go_wp2_with fail
        refine (HC.out _).mono ?_
        rintro e w' ⟨rfl, rfl⟩
        go_wp2
        go_ret
        exact ⟨ret_int HF.out.symm, rfl⟩
      | false =>
        have HA2 : Hid (∀ j, j < k + 1 → p (l.getD j 0) = false) := hide (fun j hj => by
          rcases Nat.lt_succ_iff_lt_or_eq.1 hj with h | h
          · exact HA.out j h
          · rw [h, hy]; exact hpy)
        rw [hpy] at HC
        clear hq hy
        go_wp2_with fail
        refine (HC.out _).mono ?_
        rintro e w' ⟨rfl, rfl⟩
        go_wp2
        go_round
        case rel => exact ⟨k + 1, by omega, by go_num, HA2⟩
        case measure => simp [intOf]; omega
    · have HF := hide (HN.out (fun j hj => HA.out j (by have := HL.out; omega)))
      go_wp2
      go_ret
      exact ⟨ret_int HF.out.symm, rfl⟩
theorem contains_any {g : Nat} {p : Int → Bool} (eg : ∀ args w, (callFunc g args).run Tryd.prog w = .ok (.enter g args) w) (hp : ∀ (x : Int) (W : World), Calls Tryd.prog g #[.int .i64 x] W fun e w' => e = .returned (.bool (p x)) ∧ W = w')
    {A : Option Addr} {n c : Nat} {l : List Int} {w : World} (h : At w 1 e64 A n c l) :
    Calls Tryd.prog 22 #[.slice A n c, .func (.func g) #[] #[]] w fun e w' => e = .returned (.bool (l.any p)) ∧ w = w' := by
  have HI := hide (fun (W : World) (hW : w = W) => idx_any eg hp (hW ▸ h : At W 1 e64 A n c l))
  rw [← idxI_any]
  generalize idxI p l = r at *
  clear h hp eg
  go_enter Tryd.func22, Tryd.ntmps22
  go_wp2_with (go_at_call 42; refine (HI.out _ rfl).mono ?_; rintro e w' ⟨rfl, rfl⟩)
  go_ret
  exact ⟨rfl, rfl⟩
theorem lng_any (x : Int) (w : World) : Calls Tryd.prog 23 #[.int .i64 x] w fun e w' => e = .returned (.bool (decide (x < 1 ∨ 1000000000 < x))) ∧ w = w' := by
  by_cases hx : x < 1 ∨ 1000000000 < x
  · rw [show decide (x < 1 ∨ 1000000000 < x) = true by simpa using hx]
    go_enter Tryd.func23, Tryd.ntmps23
    go_wp2_with (first | ((go_at_call 24; with_reducible refine (out_no ?_ _).mono ?_); (focus omega); rintro e w' ⟨rfl, rfl⟩) | ((go_at_call 24; with_reducible refine (out_yes ?_ _).mono ?_); (focus omega); rintro e w' ⟨rfl, rfl⟩))
    go_ret
    exact ⟨rfl, rfl⟩
  · rw [show decide (x < 1 ∨ 1000000000 < x) = false by simpa using hx]
    have hx' : 1 ≤ x ∧ x ≤ 1000000000 := by omega
    clear hx
    go_enter Tryd.func23, Tryd.ntmps23
    go_wp2_with (first | ((go_at_call 24; with_reducible refine (out_no ?_ _).mono ?_); (focus omega); rintro e w' ⟨rfl, rfl⟩) | ((go_at_call 24; with_reducible refine (out_yes ?_ _).mono ?_); (focus omega); rintro e w' ⟨rfl, rfl⟩))
    go_ret
    exact ⟨rfl, rfl⟩
theorem lng_has {A : Option Addr} {n c : Nat} {l : List Int} {w : World} (h : At w 1 e64 A n c l) :
    Calls Tryd.prog 22 #[.slice A n c, .func (.func 23) #[] #[]] w fun e w' => e = .returned (.bool (rngB 1 1000000000 l)) ∧ w = w' :=
  contains_any (enters_of Tryd.func23 (by kernel_rfl) rfl) lng_any h
theorem siz_any (x : Int) (w : World) : Calls Tryd.prog 25 #[.int .i64 x] w fun e w' => e = .returned (.bool (decide (x < 1 ∨ 1000000000 < x))) ∧ w = w' := by
  by_cases hx : x < 1 ∨ 1000000000 < x
  · rw [show decide (x < 1 ∨ 1000000000 < x) = true by simpa using hx]
    go_enter Tryd.func25, Tryd.ntmps25
    go_wp2_with (first | ((go_at_call 24; with_reducible refine (out_no ?_ _).mono ?_); (focus omega); rintro e w' ⟨rfl, rfl⟩) | ((go_at_call 24; with_reducible refine (out_yes ?_ _).mono ?_); (focus omega); rintro e w' ⟨rfl, rfl⟩))
    go_ret
    exact ⟨rfl, rfl⟩
  · rw [show decide (x < 1 ∨ 1000000000 < x) = false by simpa using hx]
    have hx' : 1 ≤ x ∧ x ≤ 1000000000 := by omega
    clear hx
    go_enter Tryd.func25, Tryd.ntmps25
    go_wp2_with (first | ((go_at_call 24; with_reducible refine (out_no ?_ _).mono ?_); (focus omega); rintro e w' ⟨rfl, rfl⟩) | ((go_at_call 24; with_reducible refine (out_yes ?_ _).mono ?_); (focus omega); rintro e w' ⟨rfl, rfl⟩))
    go_ret
    exact ⟨rfl, rfl⟩
theorem siz_has {A : Option Addr} {n c : Nat} {l : List Int} {w : World} (h : At w 1 e64 A n c l) :
    Calls Tryd.prog 22 #[.slice A n c, .func (.func 25) #[] #[]] w fun e w' => e = .returned (.bool (rngB 1 1000000000 l)) ∧ w = w' :=
  contains_any (enters_of Tryd.func25 (by kernel_rfl) rfl) siz_any h
def sumI (l : List Int) (k : Nat) : Int := (l.take k).sum
theorem sumI_succ {l : List Int} {k : Nat} (h : k < l.length) : sumI l (k + 1) = sumI l k + l.getD k 0 := by
  unfold sumI
  rw [List.take_add_one, List.sum_append]
  simp [List.getD, h]
theorem sumI_bound {l : List Int} (h : ∀ i, i < l.length → 0 ≤ l.getD i 0 ∧ l.getD i 0 ≤ 1000000000) : ∀ k, k ≤ l.length → 0 ≤ sumI l k ∧ sumI l k ≤ 1000000000 * (k : Int)
  | 0, _ => by simp [sumI]
  | k + 1, hk => by
    have := sumI_bound h k (by omega)
    have h2 := h k (by omega)
    rw [sumI_succ (by omega)]
    omega
set_option maxRecDepth 100000 in
set_option maxHeartbeats 1000000 in
theorem keySum_any {A : Option Addr} {n c : Nat} {l : List Int} {w : World} (h : At w 1 e64 A n c l) (hn : n ≤ 200) (hv : ∀ i, i < l.length → 0 ≤ l.getD i 0 ∧ l.getD i 0 ≤ 1000000000) :
    Calls Tryd.prog 26 #[.slice A n c] w fun e w' => e = .returned (.int .i64 l.sum) ∧ w = w' := by
  have hl := h.len
  have HS : Hid (sumI l n = l.sum) := hide (by unfold sumI; rw [← hl, List.take_length])
  have HB := hide (fun k (hk : k ≤ n) => sumI_bound hv k (by omega))
  have HC := hide (fun k (hk : k < n) => sumI_succ (l := l) (k := k) (by omega))
  have H := hide h
  clear hv h hl
  go_enter Tryd.func26, Tryd.ntmps26
  go_wp2
  go_loop [3, 8] (fun rs ri => ∃ k : Nat, k ≤ n ∧ rs = .int .i64 (sumI l k) ∧ ri = .int .i64 k) (fun _ ri => n - (intOf ri).toNat)
  case atStart => exact ⟨0, by omega, by simp [sumI], rfl⟩
  case round =>
    obtain ⟨k, hk, rfl, rfl⟩ := hrel
    by_cases hlt : k < n
    · obtain ⟨b, off, rfl, _⟩ := H.out.addr (by omega)
      have a1 := H.out.num hlt
      have b0 := HB.out k hk
      have b1 := HB.out (k + 1) (by omega)
      have hc := HC.out k hlt
      generalize l.getD k 0 = x at *
      obtain ⟨s1, hq1⟩ : ∃ s, s = sumI l (k + 1) := ⟨_, rfl⟩
      rw [← hq1] at b1 hc
      have HQ := hide hq1.symm
      clear hq1
      generalize sumI l k = s0 at *
      have hs1 : 0 ≤ s0 + x := by omega
      have hs2 : s0 + x ≤ 200000000000 := by omega
      have HS1 := hide hc.symm
      clear hc b0 b1
      go_wp2
      go_round
      case rel => exact ⟨k + 1, by omega, by rw [HQ.out]; exact congrArg _ HS1.out, by rw [Int.natCast_add]; rfl⟩
      case measure => simp [intOf]; omega
    · obtain rfl : k = n := by omega
      go_wp2
      go_ret
      exact ⟨ret_int HS.out, rfl⟩
end Go.Proofs.YtfelgolfebhmkaaDoor
