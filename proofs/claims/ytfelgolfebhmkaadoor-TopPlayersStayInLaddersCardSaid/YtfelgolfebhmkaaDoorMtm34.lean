/- Several texts in one: Walks: meanRates and MeanRates (both). Conditions as stated; The choice by the buffer, in plain words: with more in the buffer it is not less. No condition but as stated; The mean rates of a film that is right do not become less. Plain. Conditions as stated. -/
import Derived.Test.YtfelgolfebhmkaaDoorMtm25
import Derived.Test.YtfelgolfebhmkaaDoorMtm02
import Init
namespace Go.Proofs.YtfelgolfebhmkaaDoor
open Go.RowKit
def ratesL (L : List Int) (S : List (List Int)) : List Int := S.map fun r => 1000 * r.sum / L.sum
theorem ratesL_snoc {L : List Int} {S : List (List Int)} {k : Nat} (hk : k < S.length) : ratesL L (S.take (k + 1)) = ratesL L (S.take k) ++ [1000 * (S.getD k []).sum / L.sum] := by
  unfold ratesL
  rw [List.take_succ_eq_append_getElem hk, List.map_append]
  simp [List.getD, hk]
theorem Tryd.info3 : (Tryd.prog.info? 3).map (fun i => (i.zero, i.size, i.bytes)) = some (some (.int .i64 0), 1, 8) := by kernel_rfl
section
variable {lA : Option Addr} {ln lc : Nat} {sA : Option Addr} {sn sc : Nat} {qA : Option Addr} {qn qc : Nat} {L : List Int} {S : List (List Int)} {Q : List Int} {w : World}
set_option maxRecDepth 100000 in
set_option maxHeartbeats 4000000 in
theorem keyMean_any (h : Shw w lA ln lc sA sn sc qA qn qc L S Q) (ok : FilmOk L S Q) :
    Calls Tryd.prog 10 #[shV lA ln lc sA sn sc qA qn qc] w fun e w' => ∃ A n c, e = .returned (.slice A n c) ∧ At w' 1 e64 A n c (ratesL L S) ∧ Ext w w' := by
  obtain ⟨i0, hi0, hz0, hz1, hz2⟩ := info_parts Tryd.info3
  have hl := h.longs.len
  have hs := h.sizes.len
  have hbs := h.sizes.bound
  obtain ⟨ok⟩ : Nonempty (Hid (FilmOk L S Q)) := ⟨hide ok⟩
  have hln : ln ≤ 200 := by have := ok.out.l1; omega
  have hsn : sn ≤ 20 := by have := ok.out.s1; omega
  have hs0 : 0 < sn := by have := ok.out.s0; omega
  obtain ⟨bs, os, rfl⟩ := h.sizes.addr (by omega)
  have EA := hide (Ext.alloc w (shO lA ln lc (some ⟨bs, os, none⟩) sn sc qA qn qc))
  have HCL := hide (fun (W : World) hW => sh_cells w lA ln lc (some ⟨bs, os, none⟩) sn sc qA qn qc (W := W) hW)
  have HH := hide h
  have hLb : 1 ≤ L.sum ∧ L.sum ≤ 200000000000 := sum_pos (by have := ok.out.l0; omega) ok.out.l1 ok.out.lr
  have HLS := hide (fun (W : World) (hW : Ext w W) => keySum_any (h.longs.ext hW) hln (fun i hi => by have := ok.out.lr i hi; omega))
  have HL := hide hl; have HS := hide hs
  obtain ⟨B, hB⟩ : ∃ B, B = (w.alloc (shO lA ln lc (some ⟨bs, os, none⟩) sn sc qA qn qc)).heap.size := ⟨_, rfl⟩
  have HB := hide hB
  generalize hlq : L.sum = lq at *
  have HLQ := hide hlq
  obtain ⟨hL1, hL2⟩ := hLb
  have hL3 : lq ≠ 0 := by omega
  clear h hl hs hB hlq
  go_enter Tryd.func10, Tryd.ntmps10
  go_wp2_with fail
  go_loopw [3, 9] (fun rv ri wr => ∃ k : Nat, k ≤ sn ∧ ri = .int .i64 k ∧ Hid (Own wr B 3 1 e64 rv (ratesL L (S.take k))) ∧ Hid (Ext (w.alloc (shO lA ln lc (some ⟨bs, os, none⟩) sn sc qA qn qc)) wr)) (fun _ ri _ => sn - (intOf ri).toNat)
  case atStart => exact ⟨0, by omega, rfl, hide (by simpa [ratesL] using Own.nil _ _ _ _ _), hide (Ext.refl _)⟩
  case round =>
    obtain ⟨k, hk, rfl, HO, HX⟩ := hrel
    by_cases hlt : k < sn
    · obtain ⟨c0, c1, c2⟩ := HCL.out wr HX.out
      have HW := hide (Ext.trans EA.out HX.out)
      obtain ⟨rA, rn, rc, rcell, rat⟩ := (HH.out.ext HW.out).sizes.row hlt
      have hrn : rn ≤ 200 := by have h1 := rat.len; have h2 := ok.out.sl k (by have := HS.out; omega); have := HL.out; omega
      have hrz : ∀ i, i < (S.getD k []).length → 0 ≤ (S.getD k []).getD i 0 ∧ (S.getD k []).getD i 0 ≤ 1000000000 := fun i hi => by
        have h2 := ok.out.sl k (by have := HS.out; omega)
        have := ok.out.sr k (by have := HS.out; omega) i (by omega); omega
      have hsb := sumI_bound hrz (S.getD k []).length (Nat.le_refl _)
      rw [sumI_all rfl] at hsb
      have hsb2 : (S.getD k []).length ≤ 200 := by have h1 := rat.len; omega
      have HRS := hide (fun (W : World) (hW : Ext wr W) => keySum_any (rat.ext hW) hrn hrz)
      have HSN : Hid (ratesL L (S.take (k + 1)) = ratesL L (S.take k) ++ [1000 * (S.getD k []).sum / lq]) := hide (by rw [ratesL_snoc (by have := HS.out; omega), HLQ.out])
      generalize (S.getD k []).sum = sq at *
      have hq1 : 0 ≤ sq := by omega
      have hq2 : sq ≤ 200000000000 := by omega
      have hq3 : 0 ≤ 1000 * sq := by omega
      have hq5 : IntKind.i64.wrap ((1000 * sq).tdiv lq) = 1000 * sq / lq := by
        rw [Int.tdiv_eq_ediv_of_nonneg hq3, IntKind.wrap_i64]
        have h1 : 0 ≤ 1000 * sq / lq := Int.ediv_nonneg hq3 (by omega)
        have h2 : 1000 * sq / lq ≤ 1000 * sq := Int.ediv_le_self _ hq3
        omega
      have hq4 : IntKind.i64.wrap (1000 * sq) = 1000 * sq := by rw [IntKind.wrap_i64]; omega
      have xl : (ratesL L (S.take k)).length = k := by simp [ratesL]; have := HS.out; omega
      have s1 : (ratesL L (S.take k)).length + 1 ≤ maxLen := by rw [xl]; unfold maxLen; omega
      have s2 : ((ratesL L (S.take k)).length + 1) * 8 ≤ 140737488355328 := by rw [xl]; omega
      have S1 := hide s1; have S2 := hide s2
      have HBW : Hid (B ≤ wr.heap.size) := hide (by rw [HB.out]; exact HX.out.size)
      have EX := Ext.drew wr
      clear s1 s2 xl hsb hsb2 hrz rat
      go_wp2_with fail
      go_region_held3 (fun w' => w'.cell? ⟨w.heap.size, 0, none⟩ = some (.slice lA ln lc)) (first | go_keep | exact EX.cell c0) (first
        | ((go_at_call 26; with_reducible refine (HRS.out _ ?_).mono ?_); (focus (exact (by repeat' (first | (with_reducible first | exact Below.refl _ _ | assumption | refine below_drewN ?_ _ | refine Below.drew ?_ | refine ext_alloc ?_ _ | refine Below.setCell ?_ ?_ _) | go_size)))); rintro e w' ⟨rfl, rfl⟩)
        | ((go_at_call 26; with_reducible refine (HLS.out _ ?_).mono ?_); (focus (exact Ext.trans HW.out (by repeat' (first | (with_reducible first | exact Below.refl _ _ | assumption | refine below_drewN ?_ _ | refine Below.drew ?_ | refine ext_alloc ?_ _ | refine Below.setCell ?_ ?_ _) | go_size)))); rintro e w' ⟨rfl, rfl⟩)
        | ((refine step_append_at rfl (.tmp 13) (.tmp 21) 22 rfl B 3 i0 _ 8 Tryd.underlying22 hi0 hz0 hz1 hz2 rfl (by omega) len_e64 one_e64 _ _ (by rfl) (HO.out.ext (by repeat' (first | (with_reducible first | exact Below.refl _ _ | assumption | refine below_drewN ?_ _ | refine Below.drew ?_ | refine ext_alloc ?_ _ | refine Below.setCell ?_ ?_ _) | go_size))) (some ⟨wr.heap.size, 0, none⟩) 1 1 [1000 * sq / lq] (by simp [Act.eval]) ((At.new1 (enc := e64) wr (1000 * sq / lq) _ rfl _).ext (Ext.drew _)) S1.out S2.out (Nat.le_trans HBW.out (by simp)) ?_); intro v3 w3 o3 g3 _ _; have O3 := hide o3; have E3 := hide (Own.below (w0 := w.alloc (shO lA ln lc (some ⟨bs, os, none⟩) sn sc qA qn qc)) (HO.out.ext (by repeat' (first | (with_reducible first | exact Below.refl _ _ | assumption | refine below_drewN ?_ _ | refine Below.drew ?_ | refine ext_alloc ?_ _ | refine Below.setCell ?_ ?_ _) | go_size))) (Ext.trans HX.out (by repeat' (first | (with_reducible first | exact Below.refl _ _ | assumption | refine below_drewN ?_ _ | refine Below.drew ?_ | refine ext_alloc ?_ _ | refine Below.setCell ?_ ?_ _) | go_size))) g3 (Nat.le_of_eq HB.out.symm)); have K3 := (HCL.out w3 E3.out).1; clear o3 g3))
      go_wp2
      go_roundw
      case rel => exact ⟨k + 1, by omega, by go_num, hide (by rw [HSN.out]; exact O3.out), E3⟩
      case measure => simp [intOf]; omega
    · obtain rfl : k = sn := by omega
      have HW := hide (Ext.trans EA.out HX.out)
      have ho := HO.out
      rw [List.take_of_length_le (by have := HS.out; omega)] at ho
      obtain ⟨A3, c3, hv3, a3⟩ := ho.at_ len_e64
      subst hv3
      have P3 := hide a3
      clear a3 ho
      go_wp2
      go_ret
      exact ⟨_, _, _, rfl, P3.out, HW.out⟩
end
end Go.Proofs.YtfelgolfebhmkaaDoor
namespace Go.Proofs.YtfelgolfebhmkaaDoor
def lastF (P : Nat → Bool) : Nat → Int
  | 0 => 0
  | n + 1 => if P n = true then (n : Int) else lastF P n
theorem lastF_succ (P : Nat → Bool) (n : Nat) : lastF P (n + 1) = if P n = true then (n : Int) else lastF P n := rfl
theorem lastF_bd (P : Nat → Bool) : ∀ n, 0 ≤ lastF P n ∧ (lastF P n < n ∨ lastF P n = 0)
  | 0 => ⟨Int.le_refl _, Or.inr rfl⟩
  | n + 1 => by
    have := lastF_bd P n
    rw [lastF_succ]
    split <;> omega
def bufB (R : List Int) (low high buf : Int) (i : Nat) : Bool := decide ((R.getD i 0 - R.getD 0 0) * (high - low) ≤ (R.getD (R.length - 1) 0 - R.getD 0 0) * (buf - low))
def bufC (R : List Int) (low high buf : Int) : Int :=
  if buf ≤ low then 0 else if high ≤ buf then (R.length : Int) - 1 else lastF (bufB R low high buf) R.length
variable {L : List Int} {S : List (List Int)} {Q : List Int}
theorem rates_get {i : Nat} (hi : i < S.length) : (ratesL L S).getD i 0 = 1000 * (S.getD i []).sum / L.sum := by
  unfold ratesL
  simp only [List.getD_eq_getElem?_getD, List.getElem?_map, List.getElem?_eq_getElem hi, Option.map_some, Option.getD_some]
theorem rates_len : (ratesL L S).length = S.length := by unfold ratesL; simp
theorem row_sum (ok : FilmOk L S Q) {i : Nat} (hi : i < S.length) : 1 ≤ (S.getD i []).sum ∧ (S.getD i []).sum ≤ 200000000000 :=
  sum_pos (by rw [ok.sl i hi]; exact ok.l0) (by rw [ok.sl i hi]; exact ok.l1) (fun k hk => ok.sr i hi k (by rw [← ok.sl i hi]; exact hk))
theorem rates_bd (ok : FilmOk L S Q) {i : Nat} (hi : i < S.length) : 0 ≤ (ratesL L S).getD i 0 ∧ (ratesL L S).getD i 0 ≤ 200000000000000 := by
  rw [rates_get hi]
  have h1 := row_sum ok hi
  have h2 : 1 ≤ L.sum ∧ L.sum ≤ 200000000000 := sum_pos ok.l0 ok.l1 ok.lr
  refine ⟨Int.ediv_nonneg (by omega) (by omega), Int.le_trans (Int.ediv_le_self _ (by omega)) (by omega)⟩
theorem sums_step (ok : FilmOk L S Q) {i : Nat} (hi : i + 1 < S.length) : (S.getD i []).sum ≤ (S.getD (i + 1) []).sum := by
  have h := ok.el (i + 1) hi
  unfold szEl at h
  split at h
  · omega
  split at h
  · omega
  split at h
  · omega
  split at h
  · omega
  · rename_i h4
    have h5 : ¬ (S.getD (i + 1) []).sum < (S.getD (i + 1 - 1) []).sum := fun hc => h4 ⟨by omega, Or.inr hc⟩
    rw [Nat.add_sub_cancel] at h5
    omega
theorem rates_mono (ok : FilmOk L S Q) (i : Nat) : ∀ m, i + m < S.length → (ratesL L S).getD i 0 ≤ (ratesL L S).getD (i + m) 0
  | 0, _ => Int.le_refl _
  | m + 1, h => by
    have h1 := rates_mono ok i m (by omega)
    have h2 := sums_step ok (i := i + m) h
    have h3 : 1 ≤ L.sum ∧ L.sum ≤ 200000000000 := sum_pos ok.l0 ok.l1 ok.lr
    have e1 : (ratesL L S).getD (i + m) 0 = 1000 * (S.getD (i + m) []).sum / L.sum := rates_get (by omega)
    rw [e1] at h1
    have e : (ratesL L S).getD (i + m + 1) 0 = 1000 * (S.getD (i + m + 1) []).sum / L.sum := rates_get h
    show (ratesL L S).getD i 0 ≤ (ratesL L S).getD (i + m + 1) 0
    rw [e]
    exact Int.le_trans h1 (Int.ediv_le_ediv (by omega) (by omega))
end Go.Proofs.YtfelgolfebhmkaaDoor
