/- Walks: slices.IndexFunc and slices.ContainsFunc of numbers, with a predicate that leaves all as it is; CheckFilm's two predicates. Conditions as stated. -/
import Derived.Test.YtajadgpkmommmaaFilmP
import Derived.Test.YtajadgpkmommmaaOut
import Derived.Shelf.Abstract
namespace Go.Proofs.Ytajadgpkmommmaa
open Go.RowKit

/-- The first place at which a predicate holds, or -1. -/
def idxI (p : Int → Bool) (l : List Int) : Int := match l.findIdx? p with | some i => (i : Int) | none => -1
theorem idxI_at {p : Int → Bool} {l : List Int} {k : Nat} (hk : k < l.length) (h : p (l.getD k 0) = true) (ha : ∀ j, j < k → p (l.getD j 0) = false) : idxI p l = k := by
  unfold idxI
  have : l.findIdx? p = some k := by
    rw [List.findIdx?_eq_some_iff_getElem]
    refine ⟨hk, by simpa [List.getD, hk] using h, fun j hj => ?_⟩
    have := ha j hj
    have hjl : j < l.length := by omega
    simpa [List.getD, hjl] using this
  rw [this]
theorem idxI_no {p : Int → Bool} {l : List Int} (ha : ∀ j, j < l.length → p (l.getD j 0) = false) : idxI p l = -1 := by
  unfold idxI
  have : l.findIdx? p = none := by
    rw [List.findIdx?_eq_none_iff]
    intro x hx
    obtain ⟨j, hj, rfl⟩ := mem_getD 0 hx
    exact ha j hj
  rw [this]
theorem idxI_any (p : Int → Bool) (l : List Int) : decide (0 ≤ idxI p l) = l.any p := by
  unfold idxI
  cases h : l.findIdx? p with
  | none =>
    rw [List.findIdx?_eq_none_iff] at h
    rw [show l.any p = false by rw [List.any_eq_false]; intro x hx; rw [h x hx]; simp]
    rfl
  | some i =>
    rw [List.findIdx?_eq_some_iff_getElem] at h
    obtain ⟨hi, hp, _⟩ := h
    rw [show l.any p = true by rw [List.any_eq_true]; exact ⟨_, List.getElem_mem hi, hp⟩]
    simp
set_option maxHeartbeats 1000000 in
theorem idx_any {g : Nat} {p : Int → Bool} (eg : ∀ args w, (callFunc g args).run Try.prog w = .ok (.enter g args) w) (hp : ∀ (x : Int) (W : World), Calls Try.prog g #[.int .i64 x] W fun e w' => e = .returned (.bool (p x)) ∧ W = w')
    {A : Option Addr} {n c : Nat} {l : List Int} {w : World} (h : At w 1 e64 A n c l) :
    Calls Try.prog 60 #[.slice A n c, .func (.func g) #[] #[]] w fun e w' => e = .returned (.int .i64 (idxI p l)) ∧ w = w' := by
  have hb := h.bound
  have hl := h.len
  have H := hide h
  have HY := hide (fun k (hk : k < n) (hq : p (l.getD k 0) = true) ha => idxI_at (p := p) (l := l) (k := k) (by omega) hq ha)
  have HN := hide (fun ha => idxI_no (p := p) (l := l) ha)
  have HP := hide hp
  have HL := hide hl
  clear h hl hp
  go_enter Try.func60, Try.ntmps60
  go_wp2
  go_loop [5, 8] (fun _ ri => ∃ k : Nat, k ≤ n ∧ ri = .int .i64 k ∧ Hid (∀ j, j < k → p (l.getD j 0) = false)) (fun _ i => n - (intOf i).toNat)
  case atStart => exact ⟨0, by omega, rfl, hide (fun j hj => by omega)⟩
  case round =>
    obtain ⟨k, hk, rfl, HA⟩ := hrel
    by_cases hlt : k < n
    · obtain ⟨b, off, rfl, _⟩ := H.out.addr (by omega)
      have a1 := H.out.num hlt
      have hq := HY.out k hlt
      have HC := hide (HP.out (l.getD k 0))
      generalize hy : l.getD k 0 = y at *
      cases hpy : p y with
      | true =>
        have HF := hide (hq hpy HA.out)
        rw [hpy] at HC
        clear hq hy
        go_wp2_with fail
        refine (HC.out _).mono ?_
        rintro e w' ⟨rfl, rfl⟩
        go_wp2
        go_ret
        exact ⟨ret_int HF.out.symm, rfl⟩
      | false =>
        have HA2 : Hid (∀ j, j < k + 1 → p (l.getD j 0) = false) := hide (fun j hj => by
          rcases Nat.lt_succ_iff_lt_or_eq.1 hj with h | h
          · exact HA.out j h
          · rw [h, hy]; exact hpy)
        rw [hpy] at HC
        clear hq hy
        go_wp2_with fail
        refine (HC.out _).mono ?_
        rintro e w' ⟨rfl, rfl⟩
        go_wp2
        go_round
        case rel => exact ⟨k + 1, by omega, by go_num, HA2⟩
        case measure => simp [intOf]; omega
    · have HF := hide (HN.out (fun j hj => HA.out j (by have := HL.out; omega)))
      go_wp2
      go_ret
      exact ⟨ret_int HF.out.symm, rfl⟩
theorem contains_any {g : Nat} {p : Int → Bool} (eg : ∀ args w, (callFunc g args).run Try.prog w = .ok (.enter g args) w) (hp : ∀ (x : Int) (W : World), Calls Try.prog g #[.int .i64 x] W fun e w' => e = .returned (.bool (p x)) ∧ W = w')
    {A : Option Addr} {n c : Nat} {l : List Int} {w : World} (h : At w 1 e64 A n c l) :
    Calls Try.prog 49 #[.slice A n c, .func (.func g) #[] #[]] w fun e w' => e = .returned (.bool (l.any p)) ∧ w = w' := by
  have HI := hide (fun (W : World) (hW : w = W) => idx_any eg hp (hW ▸ h : At W 1 e64 A n c l))
  rw [← idxI_any]
  generalize idxI p l = r at *
  clear h hp eg
  go_enter Try.func49, Try.ntmps49
  go_wp2_with (go_at_call 60; refine (HI.out _ rfl).mono ?_; rintro e w' ⟨rfl, rfl⟩)
  go_ret
  exact ⟨rfl, rfl⟩
theorem lng_any (x : Int) (w : World) : Calls Try.prog 50 #[.int .i64 x] w fun e w' => e = .returned (.bool (decide (x < 1 ∨ 1000000000 < x))) ∧ w = w' := by
  by_cases hx : x < 1 ∨ 1000000000 < x
  · rw [show decide (x < 1 ∨ 1000000000 < x) = true by simpa using hx]
    go_enter Try.func50, Try.ntmps50
    go_wp2_with (first | ((go_at_call 24; with_reducible refine (out_no ?_ _).mono ?_); (focus omega); rintro e w' ⟨rfl, rfl⟩) | ((go_at_call 24; with_reducible refine (out_yes ?_ _).mono ?_); (focus omega); rintro e w' ⟨rfl, rfl⟩))
    go_ret
    exact ⟨rfl, rfl⟩
  · rw [show decide (x < 1 ∨ 1000000000 < x) = false by simpa using hx]
    have hx' : 1 ≤ x ∧ x ≤ 1000000000 := by omega
    clear hx
    go_enter Try.func50, Try.ntmps50
    go_wp2_with (first | ((go_at_call 24; with_reducible refine (out_no ?_ _).mono ?_); (focus omega); rintro e w' ⟨rfl, rfl⟩) | ((go_at_call 24; with_reducible refine (out_yes ?_ _).mono ?_); (focus omega); rintro e w' ⟨rfl, rfl⟩))
    go_ret
    exact ⟨rfl, rfl⟩
theorem lng_has {A : Option Addr} {n c : Nat} {l : List Int} {w : World} (h : At w 1 e64 A n c l) :
    Calls Try.prog 49 #[.slice A n c, .func (.func 50) #[] #[]] w fun e w' => e = .returned (.bool (rngB 1 1000000000 l)) ∧ w = w' :=
  contains_any (enters_of Try.func50 (by kernel_rfl) rfl) lng_any h
theorem siz_any (x : Int) (w : World) : Calls Try.prog 51 #[.int .i64 x] w fun e w' => e = .returned (.bool (decide (x < 1 ∨ 1000000000 < x))) ∧ w = w' := by
  by_cases hx : x < 1 ∨ 1000000000 < x
  · rw [show decide (x < 1 ∨ 1000000000 < x) = true by simpa using hx]
    go_enter Try.func51, Try.ntmps51
    go_wp2_with (first | ((go_at_call 24; with_reducible refine (out_no ?_ _).mono ?_); (focus omega); rintro e w' ⟨rfl, rfl⟩) | ((go_at_call 24; with_reducible refine (out_yes ?_ _).mono ?_); (focus omega); rintro e w' ⟨rfl, rfl⟩))
    go_ret
    exact ⟨rfl, rfl⟩
  · rw [show decide (x < 1 ∨ 1000000000 < x) = false by simpa using hx]
    have hx' : 1 ≤ x ∧ x ≤ 1000000000 := by omega
    clear hx
    go_enter Try.func51, Try.ntmps51
    go_wp2_with (first | ((go_at_call 24; with_reducible refine (out_no ?_ _).mono ?_); (focus omega); rintro e w' ⟨rfl, rfl⟩) | ((go_at_call 24; with_reducible refine (out_yes ?_ _).mono ?_); (focus omega); rintro e w' ⟨rfl, rfl⟩))
    go_ret
    exact ⟨rfl, rfl⟩
theorem siz_has {A : Option Addr} {n c : Nat} {l : List Int} {w : World} (h : At w 1 e64 A n c l) :
    Calls Try.prog 49 #[.slice A n c, .func (.func 51) #[] #[]] w fun e w' => e = .returned (.bool (rngB 1 1000000000 l)) ∧ w = w' :=
  contains_any (enters_of Try.func51 (by kernel_rfl) rfl) siz_any h
end Go.Proofs.Ytajadgpkmommmaa
