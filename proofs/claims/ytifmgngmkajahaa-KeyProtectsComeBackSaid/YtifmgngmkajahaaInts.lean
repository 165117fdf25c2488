/- Walks: slices.Index, Contains, Equal of numbers; Below. Conditions as stated. -/
import Derived.Test.YtifmgngmkajahaaRotA
namespace Go.Proofs.Ytifmgngmkajahaa
open Go.RowKit

/-- A list of numbers, its cells by their number. -/
theorem At.num {w : World} {b off n c : Nat} {l : List Int} (h : At w 1 e64 (some ⟨b, off, none⟩) n c l) {k : Nat} (hk : k < n) : w.cell? ⟨b, off + k, none⟩ = some (.int .i64 (l.getD k 0)) := by
  have hl := h.len
  obtain ⟨b', off', e, hc⟩ := h.cells k _ (List.getElem?_eq_getElem (by omega))
  injection e with e
  injection e with e1 e2
  subst e1 e2
  have := hc 0 _ rfl
  rw [show l.getD k 0 = l[k]'(by omega) by simp [List.getD, show k < l.length by omega]]
  simpa using this
def IdxPost (l : List Int) (v : Int) (w : World) (e : Ending) (w' : World) : Prop := ∃ r : Int, e = .returned (.int .i64 r) ∧ (0 ≤ r ↔ v ∈ l) ∧ w = w'
theorem idxPost_in {l : List Int} {v : Int} {w : World} {k : Nat} (hk : k < l.length) (h : v = l.getD k 0) : IdxPost l v w (.returned (.int .i64 (k : Int))) w := by
  refine ⟨_, rfl, ?_, rfl⟩
  have : v ∈ l := by rw [h]; simp [List.getD, hk]
  simp [this]
theorem idxPost_out {l : List Int} {v : Int} {w : World} (h : ∀ j, j < l.length → v ≠ l.getD j 0) : IdxPost l v w (.returned (.int .i64 (-1))) w := by
  refine ⟨_, rfl, ?_, rfl⟩
  have : v ∉ l := by
    intro hv
    obtain ⟨j, hj, e⟩ := List.getElem_of_mem hv
    exact h j hj (by simp [List.getD, hj, e])
  simp [this]
set_option maxHeartbeats 400000 in
theorem index_any {A : Option Addr} {n c : Nat} {l : List Int} {w : World} (h : At w 1 e64 A n c l) (v : Int) :
    Calls Try.prog 88 #[.slice A n c, .int .i64 v] w (IdxPost l v w) := by
  have hb := h.bound
  have hl := hide h.len
  have H := hide h
  clear h
  go_enter Try.func88, Try.ntmps88
  go_wp2_with fail
  go_loop [8] (fun ri => ∃ k : Nat, k ≤ n ∧ ri = .int .i64 k ∧ Hid (∀ j, j < k → v ≠ l.getD j 0)) (fun i => n - (intOf i).toNat)
  case atStart => exact ⟨0, by omega, rfl, hide (fun j hj => by omega)⟩
  case round =>
    obtain ⟨k, hk, rfl, HN⟩ := hrel
    by_cases hlt : k < n
    · obtain ⟨b, off, rfl, _⟩ := H.out.addr (by omega)
      have a1 := H.out.num hlt
      generalize hy : l.getD k 0 = y at *
      have HY := hide hy
      clear hy
      by_cases hv : v = y
      · have hv1 : (v == y) = true := by simp [hv]
        have HV := hide hv
        clear hv
        go_wp2
        go_ret
        exact idxPost_in (by rw [hl.out]; exact hlt) (HV.out.trans HY.out.symm)
      · have hv1 : (v == y) = false := by simp [hv]
        have HV := hide hv
        clear hv
        go_wp2
        go_round
        case rel => exact ⟨k + 1, by omega, by go_num, hide (fun j hj => by
          rcases Nat.lt_succ_iff_lt_or_eq.1 hj with h | h
          · exact HN.out j h
          · rw [h, HY.out]; exact HV.out)⟩
        case measure => simp [intOf]; omega
    · have hkn : k = n := by omega
      have HK := hide hkn
      clear hkn
      go_wp2
      go_ret
      exact idxPost_out (fun j hj => HN.out j (by rw [hl.out] at hj; rw [HK.out]; exact hj))
theorem contains_any {A : Option Addr} {n c : Nat} {l : List Int} {w : World} (h : At w 1 e64 A n c l) (v : Int) :
    Calls Try.prog 31 #[.slice A n c, .int .i64 v] w fun e w' => e = .returned (.bool (decide (v ∈ l))) ∧ w = w' := by
  have H := hide h
  clear h
  go_enter Try.func31, Try.ntmps31
  go_wp2_with fail
  refine (index_any H.out v).mono ?_
  rintro e w1 ⟨r, rfl, hr, rfl⟩
  have HR := hide hr
  clear hr
  go_wp2
  go_ret
  exact ⟨ret_bool (by
    have := HR.out
    by_cases h : v ∈ l
    · simp [h, this.2 h]
    · have h2 : ¬ 0 ≤ r := fun h3 => h (this.1 h3)
      simp [h, h2]), rfl⟩

/-- Below, as a number. -/
theorem below_any (x n : Int) (hn : 0 < n) (hn2 : n ≤ 4000000000000000000) (hx : -9223372036854775808 ≤ x ∧ x ≤ 9223372036854775807) (w : World) :
    Calls Try.prog 29 #[.int .i64 x, .int .i64 n] w fun e w' => e = .returned (.int .i64 (x % n)) ∧ w = w' := by
  have h1 := Int.tmod_lt_of_pos x hn
  have h2 : -n < x.tmod n := Int.lt_tmod_of_pos x hn
  have h3 : x % n = x.tmod n % n := by
    have := Int.tmod_add_mul_tdiv x n
    conv => lhs; rw [← this]
    exact Int.add_mul_emod_self_left _ _ _
  have hr : x % n = if x.tmod n < 0 then x.tmod n + n else x.tmod n := by
    rw [h3]
    split
    · rw [← Int.add_emod_right, Int.emod_eq_of_lt (by omega) (by omega)]
    · exact Int.emod_eq_of_lt (by omega) (by omega)
  rw [hr]
  clear hr h3
  have hn0 : n ≠ 0 := by omega
  obtain ⟨hx1, hx2⟩ := hx
  generalize hq : x.tmod n = r at *
  by_cases h0 : r < 0
  · rw [if_pos h0]
    go_enter Try.func29, Try.ntmps29
    go_wp2
    go_ret
    exact ⟨rfl, rfl⟩
  · rw [if_neg h0]
    go_enter Try.func29, Try.ntmps29
    go_wp2
    go_ret
    exact ⟨rfl, rfl⟩
end Go.Proofs.Ytifmgngmkajahaa
