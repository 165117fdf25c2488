/- The mean rates of a film that is right do not become less. Plain. Conditions as stated. -/
import Derived.Test.YtlkddilgaenmaaaMeans
import Derived.Test.YtlkddilgaenmaaaBufP
namespace Go.Proofs.Ytlkddilgaenmaaa
variable {L : List Int} {S : List (List Int)} {Q : List Int}
theorem rates_get {i : Nat} (hi : i < S.length) : (ratesL L S).getD i 0 = 1000 * (S.getD i []).sum / L.sum := by
  unfold ratesL
  simp only [List.getD_eq_getElem?_getD, List.getElem?_map, List.getElem?_eq_getElem hi, Option.map_some, Option.getD_some]
theorem rates_len : (ratesL L S).length = S.length := by unfold ratesL; simp
theorem row_sum (ok : FilmOk L S Q) {i : Nat} (hi : i < S.length) : 1 ≤ (S.getD i []).sum ∧ (S.getD i []).sum ≤ 200000000000 :=
  sum_pos (by rw [ok.sl i hi]; exact ok.l0) (by rw [ok.sl i hi]; exact ok.l1) (fun k hk => ok.sr i hi k (by rw [← ok.sl i hi]; exact hk))
theorem rates_bd (ok : FilmOk L S Q) {i : Nat} (hi : i < S.length) : 0 ≤ (ratesL L S).getD i 0 ∧ (ratesL L S).getD i 0 ≤ 200000000000000 := by
  rw [rates_get hi]
  have h1 := row_sum ok hi
  have h2 : 1 ≤ L.sum ∧ L.sum ≤ 200000000000 := sum_pos ok.l0 ok.l1 ok.lr
  refine ⟨Int.ediv_nonneg (by omega) (by omega), Int.le_trans (Int.ediv_le_self _ (by omega)) (by omega)⟩
theorem sums_step (ok : FilmOk L S Q) {i : Nat} (hi : i + 1 < S.length) : (S.getD i []).sum ≤ (S.getD (i + 1) []).sum := by
  have h := ok.el (i + 1) hi
  unfold szEl at h
  split at h
  · omega
  split at h
  · omega
  split at h
  · omega
  split at h
  · omega
  · rename_i h4
    have h5 : ¬ (S.getD (i + 1) []).sum < (S.getD (i + 1 - 1) []).sum := fun hc => h4 ⟨by omega, Or.inr hc⟩
    rw [Nat.add_sub_cancel] at h5
    omega
theorem rates_mono (ok : FilmOk L S Q) (i : Nat) : ∀ m, i + m < S.length → (ratesL L S).getD i 0 ≤ (ratesL L S).getD (i + m) 0
  | 0, _ => Int.le_refl _
  | m + 1, h => by
    have h1 := rates_mono ok i m (by omega)
    have h2 := sums_step ok (i := i + m) h
    have h3 : 1 ≤ L.sum ∧ L.sum ≤ 200000000000 := sum_pos ok.l0 ok.l1 ok.lr
    have e1 : (ratesL L S).getD (i + m) 0 = 1000 * (S.getD (i + m) []).sum / L.sum := rates_get (by omega)
    rw [e1] at h1
    have e : (ratesL L S).getD (i + m + 1) 0 = 1000 * (S.getD (i + m + 1) []).sum / L.sum := rates_get h
    show (ratesL L S).getD i 0 ≤ (ratesL L S).getD (i + m + 1) 0
    rw [e]
    exact Int.le_trans h1 (Int.ediv_le_ediv (by omega) (by omega))
end Go.Proofs.Ytlkddilgaenmaaa
