/- Several texts in one: Walk: appendNumber. Conditions as stated; Tables in plain words: what is wrong with them. Plain; Walks: runsFault, counted, chunksFault, CheckTable (program). Conditions as stated; Walk: chunksFault (program). Conditions as stated; Reading numbers out of bytes, in plain words. Plain. -/
import Derived.Test.YtkbmgakehlmcnaaMtq16
import Derived.Test.YtkbmgakehlmcnaaMtq00
import Derived.Test.YtkbmgakehlmcnaaMtq18
import Derived.Deep.DeepCutAuto
import Derived.Test.YtkbmgakehlmcnaaMtq01
namespace Go.Proofs.Ytkbmgakehlmcnaa
open Go.RowKit
theorem e8_byte (n j : Nat) : e8 (UInt8.ofNat (n / 256 ^ j)) = [.int .u8 ((n : Int) / 2 ^ (8 * j) % 256)] := by
  have h1 : ((UInt8.ofNat (n / 256 ^ j)).toNat : Int) = (n : Int) / 2 ^ (8 * j) % 256 := by
    have h2 : (2 : Int) ^ (8 * j) = ((256 ^ j : Nat) : Int) := by rw [Int.pow_mul, Int.natCast_pow]; rfl
    rw [UInt8.toNat_ofNat', h2, Int.natCast_emod, Int.natCast_ediv]
    rfl
  show [Value.int .u8 _] = _
  rw [h1]
end Go.Proofs.Ytkbmgakehlmcnaa
namespace Go.Proofs.Ytkbmgakehlmcnaa
structure Tab where
  start : Int
  steps : List (Int × Int)
  shifts : List (Int × Int)
  sizes : List Int
  keys : List Int
  nok : Bool
  chunks : List (Int × Int)
  places : List Int
def badR (least : Int) (r : Int × Int) : Bool := decide (r.1 < 1 ∨ 5000 < r.1) || decide (r.2 < least ∨ 1000000000 < r.2)
def rnEl (least : Int) (l : List (Int × Int)) (i : Nat) : Int := if badR least (l.getD i (0, 0)) = true then 1 else 0
def runsF (least : Int) (l : List (Int × Int)) : Int := firstF (rnEl least l) l.length
def cntI (l : List (Int × Int)) : Nat → Int
  | 0 => 0
  | k + 1 => cntI l k + (l.getD k (0, 0)).1
def cntA (l : List (Int × Int)) : Int := cntI l l.length
def szEl (l : List Int) (i : Nat) : Int := if l.getD i 0 < 0 ∨ 100000 < l.getD i 0 then 1 else 0
def kyEl (n : Int) (l : List Int) (i : Nat) : Int := if l.getD i 0 < 1 ∨ n < l.getD i 0 then 1 else if 0 < i ∧ l.getD i 0 ≤ l.getD (i - 1) 0 then 8 else 0
def badC (r : Int × Int) : Bool := decide (r.1 < 1 ∨ 5000 < r.1) || decide (r.2 < 1 ∨ 1000 < r.2)
def ordC (l : List (Int × Int)) (i : Nat) : Bool := decide ((i = 0 ∧ (l.getD i (0, 0)).1 ≠ 1) ∨ (0 < i ∧ (l.getD i (0, 0)).1 ≤ (l.getD (i - 1) (0, 0)).1))
def chEl (l : List (Int × Int)) (i : Nat) : Int := if badC (l.getD i (0, 0)) = true then 1 else if ordC l i = true then 8 else 0
def chForm (l : List (Int × Int)) (p : Nat) : Prop := (0 < p ∧ l.length = 0) ∨ (0 < l.length ∧ (p : Int) < (l.getD (l.length - 1) (0, 0)).1)
instance (l : List (Int × Int)) (p : Nat) : Decidable (chForm l p) := by unfold chForm; infer_instance
def nextC (l : List (Int × Int)) (p i : Nat) : Int := if i + 1 < l.length then (l.getD (i + 1) (0, 0)).1 else (p : Int) + 1
def chSum (l : List (Int × Int)) (p : Nat) : Nat → Int
  | 0 => 0
  | k + 1 => chSum l p k + (nextC l p k - (l.getD k (0, 0)).1) * (l.getD k (0, 0)).2
def plEl (l : List Int) (i : Nat) : Int := if l.getD i 0 < 0 ∨ 1000000 < l.getD i 0 then 1 else 0
def chunksF (n : Int) (l : List (Int × Int)) (pl : List Int) : Int :=
  if firstF (chEl l) l.length ≠ 0 then firstF (chEl l) l.length else if chForm l pl.length then 3 else if chSum l pl.length l.length ≠ n then 3 else firstF (plEl pl) pl.length
def endI (s : Int) (l : List (Int × Int)) : Nat → Int
  | 0 => s
  | k + 1 => endI s l k + (l.getD k (0, 0)).1 * (l.getD k (0, 0)).2
def szBad (n : Int) (m : Nat) : Prop := (m : Int) ≠ n ∧ (n = 0 ∨ m ≠ 1)
instance (n : Int) (m : Nat) : Decidable (szBad n m) := by unfold szBad; infer_instance
def tabF3 (t : Tab) : Int :=
  if chunksF (cntA t.steps) t.chunks t.places ≠ 0 then chunksF (cntA t.steps) t.chunks t.places
  else if noT (endI t.start t.steps t.steps.length) = true then 1 else 0
def tabF2 (t : Tab) : Int :=
  if cntA t.shifts ≠ cntA t.steps ∨ szBad (cntA t.steps) t.sizes.length then 3
  else if firstF (szEl t.sizes) t.sizes.length ≠ 0 then firstF (szEl t.sizes) t.sizes.length
  else if firstF (kyEl (cntA t.steps) t.keys) t.keys.length ≠ 0 then firstF (kyEl (cntA t.steps) t.keys) t.keys.length
  else tabF3 t
def tabF (t : Tab) : Int :=
  if noT t.start = true then 1 else if runsF 0 t.steps ≠ 0 then runsF 0 t.steps else if 5000 < cntA t.steps then 2
  else if runsF (-1000000000) t.shifts ≠ 0 then runsF (-1000000000) t.shifts else tabF2 t
theorem badR_ok {least : Int} {r : Int × Int} (h : badR least r = false) : 1 ≤ r.1 ∧ r.1 ≤ 5000 ∧ least ≤ r.2 ∧ r.2 ≤ 1000000000 := by
  unfold badR at h
  simp only [Bool.or_eq_false_iff, decide_eq_false_iff_not] at h
  omega
theorem runs_ok {least : Int} {l : List (Int × Int)} (h : runsF least l = 0) : ∀ i, i < l.length → 1 ≤ (l.getD i (0, 0)).1 ∧ (l.getD i (0, 0)).1 ≤ 5000 ∧ least ≤ (l.getD i (0, 0)).2 ∧ (l.getD i (0, 0)).2 ≤ 1000000000 := by
  intro i hi
  have := firstF_all h i hi
  unfold rnEl at this
  cases hb : badR least (l.getD i (0, 0)) with
  | true => rw [hb, if_pos rfl] at this; omega
  | false => exact badR_ok hb
theorem cntI_bd {least : Int} {l : List (Int × Int)} (h : runsF least l = 0) : ∀ k, k ≤ l.length → (k : Int) ≤ cntI l k ∧ cntI l k ≤ 5000 * (k : Int)
  | 0, _ => by simp [cntI]
  | k + 1, hk => by
    have ih := cntI_bd h k (by omega)
    have := runs_ok h k (by omega)
    rw [cntI]; omega
theorem endI_bd {s : Int} {l : List (Int × Int)} (h : runsF 0 l = 0) : ∀ k, k ≤ l.length → s ≤ endI s l k ∧ endI s l k ≤ s + 1000000000 * cntI l k
  | 0, _ => by simp [endI, cntI]
  | k + 1, hk => by
    have ih := endI_bd (s := s) h k (by omega)
    have h1 := runs_ok h k (by omega)
    have hc := cntI_bd h k (by omega)
    rw [endI, cntI]
    have h2 : 0 ≤ (l.getD k (0, 0)).1 * (l.getD k (0, 0)).2 := Int.mul_nonneg (by omega) (by omega)
    have h3 : (l.getD k (0, 0)).1 * (l.getD k (0, 0)).2 ≤ (l.getD k (0, 0)).1 * 1000000000 := Int.mul_le_mul_of_nonneg_left (by omega) (by omega)
    generalize (l.getD k (0, 0)).1 * (l.getD k (0, 0)).2 = q at *
    omega
theorem badC_ok {r : Int × Int} (h : badC r = false) : 1 ≤ r.1 ∧ r.1 ≤ 5000 ∧ 1 ≤ r.2 ∧ r.2 ≤ 1000 := by
  unfold badC at h
  simp only [Bool.or_eq_false_iff, decide_eq_false_iff_not] at h
  omega
theorem ch_ok {l : List (Int × Int)} (h : firstF (chEl l) l.length = 0) : ∀ i, i < l.length → (1 ≤ (l.getD i (0, 0)).1 ∧ (l.getD i (0, 0)).1 ≤ 5000 ∧ 1 ≤ (l.getD i (0, 0)).2 ∧ (l.getD i (0, 0)).2 ≤ 1000) ∧ (i = 0 → (l.getD i (0, 0)).1 = 1) ∧ (0 < i → (l.getD (i - 1) (0, 0)).1 < (l.getD i (0, 0)).1) := by
  intro i hi
  have := firstF_all h i hi
  unfold chEl at this
  cases hb : badC (l.getD i (0, 0)) with
  | true => rw [hb, if_pos rfl] at this; omega
  | false =>
    rw [hb, if_neg (by simp)] at this
    refine ⟨badC_ok hb, ?_⟩
    cases ho : ordC l i with
    | true => rw [ho, if_pos rfl] at this; omega
    | false =>
      unfold ordC at ho
      simp only [decide_eq_false_iff_not] at ho
      constructor
      · intro h0; exact Classical.byContradiction fun hc => ho (.inl ⟨h0, hc⟩)
      · intro h0; exact Int.not_le.1 fun hc => ho (.inr ⟨h0, hc⟩)
theorem ch_asc {l : List (Int × Int)} (h : firstF (chEl l) l.length = 0) : ∀ i, i < l.length → (i : Int) + 1 ≤ (l.getD i (0, 0)).1
  | 0, hi => by have := (ch_ok h 0 hi).2.1 rfl; omega
  | i + 1, hi => by
    have ih := ch_asc h i (by omega)
    have := (ch_ok h (i + 1) hi).2.2 (by omega)
    rw [show i + 1 - 1 = i by omega] at this
    omega
theorem ch_len {l : List (Int × Int)} (h : firstF (chEl l) l.length = 0) : l.length ≤ 5000 := by
  rcases Nat.eq_zero_or_pos l.length with h0 | h0
  · omega
  · have h1 := ch_asc h (l.length - 1) (by omega)
    have h2 := (ch_ok h (l.length - 1) (by omega)).1
    omega
theorem chSum_bd {l : List (Int × Int)} {p : Nat} (h : firstF (chEl l) l.length = 0) (hf : ¬ chForm l p) : ∀ k, k < l.length → (0 ≤ chSum l p k ∧ chSum l p k ≤ 1000 * ((l.getD k (0, 0)).1 - 1)) ∧ (1 ≤ nextC l p k - (l.getD k (0, 0)).1 ∧ nextC l p k ≤ (p : Int) + 5001) ∧ (1 ≤ (nextC l p k - (l.getD k (0, 0)).1) * (l.getD k (0, 0)).2 ∧ (nextC l p k - (l.getD k (0, 0)).1) * (l.getD k (0, 0)).2 ≤ 1000 * (nextC l p k - (l.getD k (0, 0)).1)) := by
  have hstep : ∀ k, k < l.length → (1 ≤ nextC l p k - (l.getD k (0, 0)).1 ∧ nextC l p k ≤ (p : Int) + 5001) ∧ (1 ≤ (nextC l p k - (l.getD k (0, 0)).1) * (l.getD k (0, 0)).2 ∧ (nextC l p k - (l.getD k (0, 0)).1) * (l.getD k (0, 0)).2 ≤ 1000 * (nextC l p k - (l.getD k (0, 0)).1)) := by
    intro k hk
    have h1 := (ch_ok h k hk).1
    have h2 : 1 ≤ nextC l p k - (l.getD k (0, 0)).1 ∧ nextC l p k ≤ (p : Int) + 5001 := by
      unfold nextC
      split
      · rename_i h3
        have h4 := (ch_ok h (k + 1) h3).2.2 (by omega)
        have h5 := (ch_ok h (k + 1) h3).1
        rw [show k + 1 - 1 = k by omega] at h4
        omega
      · rename_i h3
        have h4 : ¬ ((p : Int) < (l.getD (l.length - 1) (0, 0)).1) := fun hc => hf (.inr ⟨by omega, hc⟩)
        rw [show l.length - 1 = k by omega] at h4
        omega
    refine ⟨h2, ?_⟩
    generalize nextC l p k - (l.getD k (0, 0)).1 = d at *
    have h6 : d * 1 ≤ d * (l.getD k (0, 0)).2 := Int.mul_le_mul_of_nonneg_left (by omega) (by omega)
    have h7 : d * (l.getD k (0, 0)).2 ≤ d * 1000 := Int.mul_le_mul_of_nonneg_left (by omega) (by omega)
    omega
  intro k
  induction k with
  | zero =>
    intro hk
    have := (ch_ok h 0 hk).2.1 rfl
    exact ⟨by rw [chSum]; omega, hstep 0 hk⟩
  | succ k ih =>
    intro hk
    have ih := ih (by omega)
    refine ⟨?_, hstep _ hk⟩
    have h8 : nextC l p k = (l.getD (k + 1) (0, 0)).1 := by unfold nextC; rw [if_pos hk]
    rw [chSum]
    rw [h8] at ih ⊢
    omega
theorem tabF_start {t : Tab} (h : noT t.start = true) : tabF t = 1 := by unfold tabF; rw [if_pos h]
theorem tabF_steps {t : Tab} (h : noT t.start = false) (h1 : runsF 0 t.steps ≠ 0) : tabF t = runsF 0 t.steps := by unfold tabF; rw [if_neg (by rw [h]; simp), if_pos h1]
theorem tabF_large {t : Tab} (h : noT t.start = false) (h1 : runsF 0 t.steps = 0) (h2 : 5000 < cntA t.steps) : tabF t = 2 := by unfold tabF; rw [if_neg (by rw [h]; simp), if_neg (by omega), if_pos h2]
theorem tabF_shifts {t : Tab} (h : noT t.start = false) (h1 : runsF 0 t.steps = 0) (h2 : ¬ 5000 < cntA t.steps) (h3 : runsF (-1000000000) t.shifts ≠ 0) : tabF t = runsF (-1000000000) t.shifts := by unfold tabF; rw [if_neg (by rw [h]; simp), if_neg (by omega), if_neg h2, if_pos h3]
theorem tabF_two {t : Tab} (h : noT t.start = false) (h1 : runsF 0 t.steps = 0) (h2 : ¬ 5000 < cntA t.steps) (h3 : runsF (-1000000000) t.shifts = 0) : tabF t = tabF2 t := by unfold tabF; rw [if_neg (by rw [h]; simp), if_neg (by omega), if_neg h2, if_neg (by omega)]
theorem tabF2_form {t : Tab} (h : cntA t.shifts ≠ cntA t.steps ∨ szBad (cntA t.steps) t.sizes.length) : tabF2 t = 3 := by unfold tabF2; rw [if_pos h]
theorem tabF2_sizes {t : Tab} (h : ¬ (cntA t.shifts ≠ cntA t.steps ∨ szBad (cntA t.steps) t.sizes.length)) (h1 : firstF (szEl t.sizes) t.sizes.length ≠ 0) : tabF2 t = firstF (szEl t.sizes) t.sizes.length := by unfold tabF2; rw [if_neg h, if_pos h1]
theorem tabF2_keys {t : Tab} (h : ¬ (cntA t.shifts ≠ cntA t.steps ∨ szBad (cntA t.steps) t.sizes.length)) (h1 : firstF (szEl t.sizes) t.sizes.length = 0) (h2 : firstF (kyEl (cntA t.steps) t.keys) t.keys.length ≠ 0) : tabF2 t = firstF (kyEl (cntA t.steps) t.keys) t.keys.length := by unfold tabF2; rw [if_neg h, if_neg (by omega), if_pos h2]
theorem tabF2_three {t : Tab} (h : ¬ (cntA t.shifts ≠ cntA t.steps ∨ szBad (cntA t.steps) t.sizes.length)) (h1 : firstF (szEl t.sizes) t.sizes.length = 0) (h2 : firstF (kyEl (cntA t.steps) t.keys) t.keys.length = 0) : tabF2 t = tabF3 t := by unfold tabF2; rw [if_neg h, if_neg (by omega), if_neg (by omega)]
end Go.Proofs.Ytkbmgakehlmcnaa
namespace Go.Proofs.Ytkbmgakehlmcnaa
open Go.RowKit
set_option linter.unusedVariables false in
set_option maxRecDepth 100000 in
set_option maxHeartbeats 4000000 in
theorem runsFault_any {A : Option Addr} {n c : Nat} {l : List (Int × Int)} {least : Int} {w : World} (h : At w 2 e2 A n c l) :
    Calls Try.prog 79 #[.slice A n c, .int .i64 least] w fun e w' => e = .returned (.int .i64 (runsF least l)) ∧ Ext w w' := by
  have hb := h.bound
  have H := hide h
  have HL := hide h.len
  have HBAD := hide (fun (k : Nat) (hk : k < n) (ha : ∀ j, j < k → rnEl least l j = 0) (hn : rnEl least l k ≠ 0) => (firstF_at ha hn (n := l.length) (by rw [h.len]; exact hk) : firstF (rnEl least l) l.length = rnEl least l k))
  have HOK := hide (fun (ha : ∀ j, j < n → rnEl least l j = 0) => (firstF_zero (fun j hj => ha j (by rw [← h.len]; exact hj)) : firstF (rnEl least l) l.length = 0))
  clear h
  go_enter Try.func79, Try.ntmps79
  go_wp2_with fail
  go_loopw [9] (fun ri wr => ∃ k : Nat, k ≤ n ∧ ri = .int .i64 k ∧ Hid (∀ j, j < k → rnEl least l j = 0) ∧ Hid (Ext w wr)) (fun ri _ => n - (intOf ri).toNat)
  case atStart => exact ⟨0, by omega, rfl, hide (fun j hj => by omega), hide (Ext.refl _)⟩
  case round =>
    obtain ⟨k, hk, rfl, HA, HX⟩ := hrel
    by_cases hlt : k < n
    · obtain ⟨b, off, rfl, _⟩ := H.out.addr (by omega)
      obtain ⟨a0, a1⟩ := (H.out.ext HX.out).pair hlt
      have hel : rnEl least l k = if badR least (l.getD k (0, 0)) = true then 1 else 0 := rfl
      have hbr : badR least (l.getD k (0, 0)) = (decide ((l.getD k (0, 0)).1 < 1 ∨ 5000 < (l.getD k (0, 0)).1) || decide ((l.getD k (0, 0)).2 < least ∨ 1000000000 < (l.getD k (0, 0)).2)) := rfl
      have HS : Hid (rnEl least l k = 0 → ∀ j, j < k + 1 → rnEl least l j = 0) := hide (fun h0 j hj => by
        rcases Nat.lt_succ_iff_lt_or_eq.1 hj with h | h
        · exact HA.out j h
        · rw [h]; exact h0)
      have HB := hide (HBAD.out k hlt HA.out)
      generalize (l.getD k (0, 0)).1 = x at *
      generalize (l.getD k (0, 0)).2 = y at *
      have i1 : (k : Int) < (n : Int) := by omega
      have i0 : (0 : Int) ≤ (k : Int) := by omega
      have i8 : IntKind.i64.wrap ((k : Int) + 1) = (k : Int) + 1 := by rw [IntKind.wrap_i64]; omega
      by_cases hx : x < 1 ∨ 5000 < x
      · have HE : Hid (runsF least l = 1) := hide (by
          have h1 : rnEl least l k = 1 := by rw [hel, hbr, if_pos]; simp [hx]
          have := HB.out (by omega)
          unfold runsF; omega)
        clear hel hbr
        go_wp2_with ((go_at_call 14; with_reducible refine (out_yes hx _).mono ?_); rintro e w' ⟨rfl, rfl⟩)
        go_ret
        exact ⟨ret_int HE.out.symm, Ext.trans HX.out (by repeat' (first | (with_reducible first | exact Below.refl _ _ | assumption | refine below_drewN ?_ _ | refine Below.drew ?_ | refine ext_alloc ?_ _ | refine Below.setCell ?_ ?_ _) | go_size))⟩
      · have hx2 : 1 ≤ x ∧ x ≤ 5000 := by omega
        by_cases hy : y < least ∨ 1000000000 < y
        · have HE : Hid (runsF least l = 1) := hide (by
            have h1 : rnEl least l k = 1 := by rw [hel, hbr, if_pos]; simp [hy]
            have := HB.out (by omega)
            unfold runsF; omega)
          clear hel hbr hx
          go_wp2_with (first | ((go_at_call 14; with_reducible refine (out_no hx2 _).mono ?_); rintro e w' ⟨rfl, rfl⟩) | ((go_at_call 14; with_reducible refine (out_yes hy _).mono ?_); rintro e w' ⟨rfl, rfl⟩))
          go_ret
          exact ⟨ret_int HE.out.symm, Ext.trans HX.out (by repeat' (first | (with_reducible first | exact Below.refl _ _ | assumption | refine below_drewN ?_ _ | refine Below.drew ?_ | refine ext_alloc ?_ _ | refine Below.setCell ?_ ?_ _) | go_size))⟩
        · have hy2 : least ≤ y ∧ y ≤ 1000000000 := by omega
          have HE : Hid (rnEl least l k = 0) := hide (by rw [hel, hbr, if_neg]; simp [hx, hy])
          clear hel hbr hx hy
          go_wp2_with (first | ((go_at_call 14; with_reducible refine (out_no hx2 _).mono ?_); rintro e w' ⟨rfl, rfl⟩) | ((go_at_call 14; with_reducible refine (out_no hy2 _).mono ?_); rintro e w' ⟨rfl, rfl⟩))
          exact ⟨⟨k + 1, by omega, by go_num, hide (HS.out HE.out), hide (Ext.trans HX.out (by repeat' (first | (with_reducible first | exact Below.refl _ _ | assumption | refine below_drewN ?_ _ | refine Below.drew ?_ | refine ext_alloc ?_ _ | refine Below.setCell ?_ ?_ _) | go_size)))⟩, by simp [intOf]; omega⟩
    · obtain rfl : k = n := by omega
      have HE : Hid (runsF least l = 0) := hide (HOK.out HA.out)
      clear hlt
      go_wp2_with fail
      go_ret
      exact ⟨ret_int HE.out.symm, HX.out⟩
set_option linter.unusedVariables false in
set_option maxRecDepth 100000 in
set_option maxHeartbeats 4000000 in
theorem counted_any {A : Option Addr} {n c : Nat} {l : List (Int × Int)} {least : Int} {w : World} (h : At w 2 e2 A n c l) (hr : runsF least l = 0) (hn : n ≤ 17592186044416) :
    Calls Try.prog 80 #[.slice A n c] w fun e w' => e = .returned (.int .i64 (cntA l)) ∧ Ext w w' := by
  have hb := h.bound
  have H := hide h
  have HL := hide h.len
  have HBD := hide (fun (k : Nat) (hk : k ≤ n) => cntI_bd hr k (by rw [h.len]; exact hk))
  clear h hr
  go_enter Try.func80, Try.ntmps80
  go_wp2_with fail
  go_loopw [3, 8] (fun rs ri wr => ∃ k : Nat, k ≤ n ∧ ri = .int .i64 k ∧ rs = .int .i64 (cntI l k) ∧ Hid (Ext w wr)) (fun _ ri _ => n - (intOf ri).toNat)
  case atStart => exact ⟨0, by omega, rfl, rfl, hide (Ext.refl _)⟩
  case round =>
    obtain ⟨k, hk, rfl, rfl, HX⟩ := hrel
    by_cases hlt : k < n
    · obtain ⟨b, off, rfl, _⟩ := H.out.addr (by omega)
      obtain ⟨a0, a1⟩ := (H.out.ext HX.out).pair hlt
      have hs : cntI l (k + 1) = cntI l k + (l.getD k (0, 0)).1 := rfl
      have hb1 := HBD.out (k + 1) (by omega)
      obtain ⟨C1, hC1⟩ : ∃ C1, C1 = cntI l (k + 1) := ⟨_, rfl⟩
      rw [← hC1] at hs hb1
      have HC1 := hide hC1
      clear hC1
      generalize cntI l k = C0 at *
      generalize (l.getD k (0, 0)).1 = x at *
      generalize (l.getD k (0, 0)).2 = y at *
      have i1 : (k : Int) < (n : Int) := by omega
      have i0 : (0 : Int) ≤ (k : Int) := by omega
      have i8 : IntKind.i64.wrap ((k : Int) + 1) = (k : Int) + 1 := by rw [IntKind.wrap_i64]; omega
      have u1 : IntKind.i64.wrap (C0 + x) = C1 := by rw [IntKind.wrap_i64]; omega
      clear hs hb1
      go_wp2_with fail
      exact ⟨⟨k + 1, by omega, by go_num, by rw [HC1.out], hide (Ext.trans HX.out (by repeat' (first | (with_reducible first | exact Below.refl _ _ | assumption | refine below_drewN ?_ _ | refine Below.drew ?_ | refine ext_alloc ?_ _ | refine Below.setCell ?_ ?_ _) | go_size)))⟩, by simp [intOf]; omega⟩
    · obtain rfl : k = n := by omega
      have HE : Hid (cntA l = cntI l k) := hide (by unfold cntA; rw [HL.out])
      clear hlt
      go_wp2_with fail
      go_ret
      exact ⟨ret_int HE.out.symm, HX.out⟩
structure TabAt (w : World) (sA : Option Addr) (sn sc : Nat) (hA : Option Addr) (hn hc : Nat) (zA : Option Addr) (zn zc : Nat) (kA : Option Addr) (kn kc : Nat) (cA : Option Addr) (cn cc : Nat) (pA : Option Addr) (pn pc : Nat) (t : Tab) : Prop where
  steps : At w 2 e2 sA sn sc t.steps
  shifts : At w 2 e2 hA hn hc t.shifts
  sizes : At w 1 e64 zA zn zc t.sizes
  keys : At w 1 e64 kA kn kc t.keys
  nok : kA = none ↔ t.nok = true
  chunks : At w 2 e2 cA cn cc t.chunks
  places : At w 1 e64 pA pn pc t.places
theorem TabAt.ext {w w' : World} {sA : Option Addr} {sn sc : Nat} {hA : Option Addr} {hn hc : Nat} {zA : Option Addr} {zn zc : Nat} {kA : Option Addr} {kn kc : Nat} {cA : Option Addr} {cn cc : Nat} {pA : Option Addr} {pn pc : Nat} {t : Tab}
    (h : TabAt w sA sn sc hA hn hc zA zn zc kA kn kc cA cn cc pA pn pc t) (he : Ext w w') : TabAt w' sA sn sc hA hn hc zA zn zc kA kn kc cA cn cc pA pn pc t :=
  ⟨h.steps.ext he, h.shifts.ext he, h.sizes.ext he, h.keys.ext he, h.nok, h.chunks.ext he, h.places.ext he⟩
set_option linter.unusedVariables false in
set_option maxRecDepth 100000 in
set_option maxHeartbeats 8000000 in
theorem chunksFault_any {st : Int} {sA : Option Addr} {sn sc : Nat} {hA : Option Addr} {hn hc : Nat} {zA : Option Addr} {zn zc : Nat} {kA : Option Addr} {kn kc : Nat} {cA : Option Addr} {cn cc : Nat} {pA : Option Addr} {pn pc : Nat} {C : List (Int × Int)} {P : List Int} {n : Int} {w : World}
    (h : At w 2 e2 cA cn cc C) (hp : At w 1 e64 pA pn pc P) (hpn : pn ≤ 17592186044416) :
    Calls Try.prog 81 #[.agg #[.int .i64 st, .slice sA sn sc, .slice hA hn hc, .slice zA zn zc, .slice kA kn kc, .slice cA cn cc, .slice pA pn pc], .int .i64 n] w fun e w' => e = .returned (.int .i64 (chunksF n C P)) ∧ Ext w w' := by
  have hcb := h.bound
  have E0 := hide (Ext.alloc w (.cells #[.int .i64 st, .slice sA sn sc, .slice hA hn hc, .slice zA zn zc, .slice kA kn kc, .slice cA cn cc, .slice pA pn pc] 82))
  have X0 := hide (Blk.new w 82 #[.int .i64 st, .slice sA sn sc, .slice hA hn hc, .slice zA zn zc, .slice kA kn kc, .slice cA cn cc, .slice pA pn pc])
  have H := hide h
  have HP := hide hp
  have HL := hide h.len
  have HPL := hide hp.len
  have HCF : Hid (chunksF n C P = if firstF (chEl C) C.length ≠ 0 then firstF (chEl C) C.length else if chForm C pn then 3 else if chSum C pn C.length ≠ n then 3 else firstF (plEl P) pn) := hide (by unfold chunksF; rw [hp.len])
  have HBAD := hide (fun (k : Nat) (hk : k < cn) (ha : ∀ j, j < k → chEl C j = 0) (hn : chEl C k ≠ 0) => (firstF_at ha hn (n := C.length) (by rw [h.len]; exact hk) : firstF (chEl C) C.length = chEl C k))
  have HOK := hide (fun (ha : ∀ j, j < cn → chEl C j = 0) => (firstF_zero (fun j hj => ha j (by rw [← h.len]; exact hj)) : firstF (chEl C) C.length = 0))
  have HPB := hide (fun (k : Nat) (hk : k < pn) (ha : ∀ j, j < k → plEl P j = 0) (hn : plEl P k ≠ 0) => (firstF_at ha hn hk : firstF (plEl P) pn = plEl P k))
  clear h hp
  go_enter Try.func81, Try.ntmps81
  go_upto_region 1 with (fail)
  refine gen_wpC fun w0 h0 => ?_
  have F0 : Hid (Ext w w0) := hide (by rw [h0]; exact E0.out)
  have X1 : Hid (Blk w0 w.heap.size 82 #[.int .i64 st, .slice sA sn sc, .slice hA hn hc, .slice zA zn zc, .slice kA kn kc, .slice cA cn cc, .slice pA pn pc]) := hide (by rw [h0]; exact X0.out)
  clear h0 E0 X0
  have x5 : w0.cell? ⟨w.heap.size, 5, none⟩ = some (.slice cA cn cc) := X1.out.cell 5
  go_wp2_with fail
  clear x5
  go_loopw [17] (fun ri wr => ∃ k : Nat, k ≤ cn ∧ ri = .int .i64 k ∧ Hid (∀ j, j < k → chEl C j = 0) ∧ Hid (Ext w0 wr)) (fun ri _ => cn - (intOf ri).toNat)
  case atStart => exact ⟨0, by omega, rfl, hide (fun j hj => by omega), hide (Ext.refl _)⟩
  case round =>
    obtain ⟨k, hk, rfl, HA, HX⟩ := hrel
    have HXW := hide (Ext.trans F0.out HX.out)
    by_cases hlt : k < cn
    · obtain ⟨b, off, rfl, _⟩ := H.out.addr (by omega)
      obtain ⟨a0, a1⟩ := (H.out.ext HXW.out).pair hlt
      have hpr : 0 < k → wr.cell? ⟨b, off + (k - 1) * 2, none⟩ = some (.int .i64 (C.getD (k - 1) (0, 0)).1) := fun h0 => ((H.out.ext HXW.out).pair (k := k - 1) (by omega)).1
      have x5 : wr.cell? ⟨w.heap.size, 5, none⟩ = some (.slice (some ⟨b, off, none⟩) cn cc) := (X1.out.ext HX.out).cell 5
      have hel : chEl C k = if badC (C.getD k (0, 0)) = true then 1 else if ordC C k = true then 8 else 0 := rfl
      have hbr : badC (C.getD k (0, 0)) = (decide ((C.getD k (0, 0)).1 < 1 ∨ 5000 < (C.getD k (0, 0)).1) || decide ((C.getD k (0, 0)).2 < 1 ∨ 1000 < (C.getD k (0, 0)).2)) := rfl
      have hod : ordC C k = decide ((k = 0 ∧ (C.getD k (0, 0)).1 ≠ 1) ∨ (0 < k ∧ (C.getD k (0, 0)).1 ≤ (C.getD (k - 1) (0, 0)).1)) := rfl
      have HS : Hid (chEl C k = 0 → ∀ j, j < k + 1 → chEl C j = 0) := hide (fun h0 j hj => by
        rcases Nat.lt_succ_iff_lt_or_eq.1 hj with h | h
        · exact HA.out j h
        · rw [h]; exact h0)
      have HB : Hid (chEl C k ≠ 0 → chunksF n C P = chEl C k) := hide (fun hn => by
        have := HBAD.out k hlt HA.out hn
        rw [HCF.out, this, if_pos hn])
      generalize (C.getD k (0, 0)).1 = x at *
      generalize (C.getD k (0, 0)).2 = y at *
      generalize (C.getD (k - 1) (0, 0)).1 = px at *
      have i1 : (k : Int) < (cn : Int) := by omega
      have i0 : (0 : Int) ≤ (k : Int) := by omega
      have i8 : IntKind.i64.wrap ((k : Int) + 1) = (k : Int) + 1 := by rw [IntKind.wrap_i64]; omega
      by_cases hx : x < 1 ∨ 5000 < x
      · have HE : Hid (chunksF n C P = 1) := hide (by
          have h1 : chEl C k = 1 := by rw [hel, hbr, if_pos]; simp [hx]
          have := HB.out (by omega)
          omega)
        clear hel hbr hod hpr x5
        go_wp2_with ((go_at_call 14; with_reducible refine (out_yes hx _).mono ?_); rintro e w' ⟨rfl, rfl⟩)
        go_ret
        exact ⟨ret_int HE.out.symm, Ext.trans HXW.out (by repeat' (first | (with_reducible first | exact Below.refl _ _ | assumption | refine below_drewN ?_ _ | refine Below.drew ?_ | refine ext_alloc ?_ _ | refine Below.setCell ?_ ?_ _) | go_size))⟩
      have hx2 : 1 ≤ x ∧ x ≤ 5000 := by omega
      by_cases hy : y < 1 ∨ 1000 < y
      · have HE : Hid (chunksF n C P = 1) := hide (by
          have h1 : chEl C k = 1 := by rw [hel, hbr, if_pos]; simp [hy]
          have := HB.out (by omega)
          omega)
        clear hel hbr hod hpr x5 hx
        go_wp2_with (first | ((go_at_call 14; with_reducible refine (out_no hx2 _).mono ?_); rintro e w' ⟨rfl, rfl⟩) | ((go_at_call 14; with_reducible refine (out_yes hy _).mono ?_); rintro e w' ⟨rfl, rfl⟩))
        go_ret
        exact ⟨ret_int HE.out.symm, Ext.trans HXW.out (by repeat' (first | (with_reducible first | exact Below.refl _ _ | assumption | refine below_drewN ?_ _ | refine Below.drew ?_ | refine ext_alloc ?_ _ | refine Below.setCell ?_ ?_ _) | go_size))⟩
      have hy2 : 1 ≤ y ∧ y ≤ 1000 := by omega
      have HE : Hid (chEl C k = if ordC C k = true then 8 else 0) := hide (by rw [hel, hbr, if_neg]; simp [hx, hy])
      have HOD := hide hod
      clear hel hbr hx hy hod
      go_upto_region 6 with (first | ((go_at_call 14; with_reducible refine (out_no hx2 _).mono ?_); rintro e w' ⟨rfl, rfl⟩) | ((go_at_call 14; with_reducible refine (out_no hy2 _).mono ?_); rintro e w' ⟨rfl, rfl⟩))
      refine gen_wpC fun w6 h6 => ?_
      have F6 : Hid (Ext wr w6) := hide (by rw [h6]; exact Ext.alloc _ _)
      have y0 : w6.cell? ⟨wr.heap.size, 0, none⟩ = some (.int .i64 x) := by rw [h6]; exact (Blk.new wr _ _).cell 0
      have y5 := F6.out.cell x5
      have ypr : 0 < k → w6.cell? ⟨b, off + (k - 1) * 2, none⟩ = some (.int .i64 px) := fun h0 => F6.out.cell (hpr h0)
      clear h6 x5 hpr a0 a1
      go_cut [31] (fun sv wx => sv = .bool (ordC C k) ∧ Hid (Ext wr wx))
      case first =>
        rcases Nat.eq_zero_or_pos k with hk0 | hk0
        · have d0 : ((k : Int) == 0) = true := by rw [beq_iff_eq]; omega
          have d1 : decide ((0 : Int) < (k : Int)) = false := by simp; omega
          have d2 : decide (0 < k) = false := by simp; omega
          have HO : Hid (ordC C k = (x != 1)) := hide (by rw [HOD.out, Bool.eq_iff_iff]; simp; omega)
          clear ypr
          by_cases hx1 : x = 1
          · have d3 : (x != 1) = false := by simp [hx1]
            go_wp2_with fail
            go_region
            go_wp2_with fail
            go_meet
            exact ⟨by rw [HO.out, d3], hide (Ext.trans F6.out (by repeat' (first | (with_reducible first | exact Below.refl _ _ | assumption | refine below_drewN ?_ _ | refine Below.drew ?_ | refine ext_alloc ?_ _ | refine Below.setCell ?_ ?_ _) | go_size)))⟩
          · have d3 : (x != 1) = true := by simp [hx1]
            go_wp2_with fail
            go_region
            go_wp2_with fail
            go_meet
            exact ⟨by rw [HO.out, d3], hide (Ext.trans F6.out (by repeat' (first | (with_reducible first | exact Below.refl _ _ | assumption | refine below_drewN ?_ _ | refine Below.drew ?_ | refine ext_alloc ?_ _ | refine Below.setCell ?_ ?_ _) | go_size)))⟩
        · have d0 : ((k : Int) == 0) = false := by rw [beq_eq_false_iff_ne]; omega
          have d1 : decide ((0 : Int) < (k : Int)) = true := by simp; omega
          have d2 : decide (0 < k) = true := by simp; omega
          have p0 := ypr hk0
          have i2 : IntKind.i64.wrap ((k : Int) - 1) = (k : Int) - 1 := by rw [IntKind.wrap_i64]; omega
          have i3 : ((k : Int) - 1).toNat = k - 1 := by omega
          have i4 : (0 : Int) ≤ (k : Int) - 1 := by omega
          have i5 : (k : Int) - 1 < (cn : Int) := by omega
          have i6 : (1 : Int) ≤ (k : Int) := by omega
          have i7 : (k : Int) ≤ (cn : Int) := by omega
          have HO : Hid (ordC C k = decide (x ≤ px)) := hide (by rw [HOD.out, Bool.eq_iff_iff]; simp; omega)
          clear ypr
          go_wp2_with fail
          go_region
          go_wp2_with fail
          go_meet
          exact ⟨by rw [HO.out], hide (Ext.trans F6.out (by repeat' (first | (with_reducible first | exact Below.refl _ _ | assumption | refine below_drewN ?_ _ | refine Below.drew ?_ | refine ext_alloc ?_ _ | refine Below.setCell ?_ ?_ _) | go_size)))⟩
      case rest =>
      obtain ⟨rfl, F7⟩ := hcut
      cases ho : ordC C k with
      | true =>
        have HE2 : Hid (chunksF n C P = 8) := hide (by
          have h1 := HE.out
          rw [ho, if_pos rfl] at h1
          have := HB.out (by omega)
          omega)
        go_wp2_with fail
        go_ret
        exact ⟨ret_int HE2.out.symm, Ext.trans HXW.out F7.out⟩
      | false =>
        have HE2 : Hid (chEl C k = 0) := hide (by rw [HE.out, ho, if_neg (by simp)])
        go_wp2_with fail
        exact ⟨⟨k + 1, by omega, by go_num, hide (HS.out HE2.out), hide (Ext.trans HX.out F7.out)⟩, by simp [intOf]; omega⟩
    · obtain rfl : k = cn := by omega
      have hz := HOK.out HA.out
      have HCG : Hid (chunksF n C P = if chForm C pn then 3 else if chSum C pn C.length ≠ n then 3 else firstF (plEl P) pn) := hide (by rw [HCF.out, if_neg (by omega)])
      have hk5 : k ≤ 5000 := by have := ch_len hz; have := HL.out; omega
      have x5 : wr.cell? ⟨w.heap.size, 5, none⟩ = some (.slice cA k cc) := (X1.out.ext HX.out).cell 5
      have x6 : wr.cell? ⟨w.heap.size, 6, none⟩ = some (.slice pA pn pc) := (X1.out.ext HX.out).cell 6
      have HZ := hide hz
      have HLC := HL.out
      clear hz hlt HBAD HOK HCF
      go_upto_region 9 with (fail)
      go_upto_region 10 with (fail)
      go_cut [83] (fun sv wx => sv = .bool (decide (chForm C pn)) ∧ Hid (Ext wr wx))
      case first =>
        have HFM : Hid (chForm C pn ↔ (0 < pn ∧ k = 0) ∨ (0 < k ∧ (pn : Int) < (C.getD (k - 1) (0, 0)).1)) := hide (by unfold chForm; rw [HL.out])
        rcases Nat.eq_zero_or_pos k with hk0 | hk0
        · have d1 : decide ((0 : Int) < (k : Int)) = false := by simp; omega
          have d2 : decide (0 < k) = false := by simp; omega
          have d0 : ((k : Int) == 0) = true := by rw [beq_iff_eq]; omega
          by_cases hp0 : 0 < pn
          · have d3 : decide ((0 : Int) < (pn : Int)) = true := by simp; omega
            have d4 : decide (0 < pn) = true := by simp; omega
            have HO : Hid (decide (chForm C pn) = true) := hide (by rw [decide_eq_true_iff, HFM.out]; exact .inl ⟨hp0, hk0⟩)
            go_region
            go_wp2_with fail
            go_meet
            exact ⟨by rw [HO.out], hide (by repeat' (first | (with_reducible first | exact Below.refl _ _ | assumption | refine below_drewN ?_ _ | refine Below.drew ?_ | refine ext_alloc ?_ _ | refine Below.setCell ?_ ?_ _) | go_size))⟩
          · have d3 : decide ((0 : Int) < (pn : Int)) = false := by simp; omega
            have d4 : decide (0 < pn) = false := by simp; omega
            have HO : Hid (decide (chForm C pn) = false) := hide (by rw [decide_eq_false_iff_not, HFM.out]; omega)
            go_region
            go_wp2_with fail
            go_meet
            exact ⟨by rw [HO.out], hide (by repeat' (first | (with_reducible first | exact Below.refl _ _ | assumption | refine below_drewN ?_ _ | refine Below.drew ?_ | refine ext_alloc ?_ _ | refine Below.setCell ?_ ?_ _) | go_size))⟩
        · obtain ⟨b, off, rfl, _⟩ := H.out.addr (by omega)
          have p0 := ((H.out.ext HXW.out).pair (k := k - 1) (by omega)).1
          have d0 : ((k : Int) == 0) = false := by rw [beq_eq_false_iff_ne]; omega
          have d1 : decide ((0 : Int) < (k : Int)) = true := by simp; omega
          have d2 : decide (0 < k) = true := by simp; omega
          have i2 : IntKind.i64.wrap ((k : Int) - 1) = (k : Int) - 1 := by rw [IntKind.wrap_i64]; omega
          have i3 : ((k : Int) - 1).toNat = k - 1 := by omega
          have i4 : (0 : Int) ≤ (k : Int) - 1 := by omega
          have i5 : (k : Int) - 1 < (k : Int) := by omega
          have i6 : (1 : Int) ≤ (k : Int) := by omega
          generalize (C.getD (k - 1) (0, 0)).1 = px at *
          have HO : Hid (decide (chForm C pn) = decide ((pn : Int) < px)) := hide (by rw [decide_eq_decide, HFM.out]; omega)
          by_cases hp0 : 0 < pn
          · have d3 : decide ((0 : Int) < (pn : Int)) = true := by simp; omega
            have d4 : decide (0 < pn) = true := by simp; omega
            go_region
            go_wp2_with fail
            go_meet
            exact ⟨by rw [HO.out], hide (by repeat' (first | (with_reducible first | exact Below.refl _ _ | assumption | refine below_drewN ?_ _ | refine Below.drew ?_ | refine ext_alloc ?_ _ | refine Below.setCell ?_ ?_ _) | go_size))⟩
          · have d3 : decide ((0 : Int) < (pn : Int)) = false := by simp; omega
            have d4 : decide (0 < pn) = false := by simp; omega
            go_region
            go_wp2_with fail
            go_meet
            exact ⟨by rw [HO.out], hide (by repeat' (first | (with_reducible first | exact Below.refl _ _ | assumption | refine below_drewN ?_ _ | refine Below.drew ?_ | refine ext_alloc ?_ _ | refine Below.setCell ?_ ?_ _) | go_size))⟩
      case rest =>
      obtain ⟨rfl, F7⟩ := hcut
      have X7 := hide (X1.out.ext (Ext.trans HX.out F7.out))
      have F8 := hide (Ext.trans HXW.out F7.out)
      clear x5 x6 HX F7 HXW
      cases hf : decide (chForm C pn) with
      | true =>
        have HE : Hid (chunksF n C P = 3) := hide (by rw [HCG.out, if_pos (of_decide_eq_true hf)])
        clear hf
        go_wp2_with fail
        go_ret
        exact ⟨ret_int HE.out.symm, F8.out⟩
      | false =>
        have hnf := of_decide_eq_false hf
        have HCG2 : Hid (chunksF n C P = if chSum C pn k ≠ n then 3 else firstF (plEl P) pn) := hide (by rw [HCG.out, if_neg hnf, HL.out])
        have HSB := hide (fun (j : Nat) (hj : j < k) => chSum_bd HZ.out hnf j (by rw [HL.out]; exact hj))
        clear hf hnf HCG
        have x5 : wc.cell? ⟨w.heap.size, 5, none⟩ = some (.slice cA k cc) := X7.out.cell 5
        go_upto_region 14 with (fail)
        go_loopw [8, 87] (fun rs ri wr => ∃ j : Nat, j ≤ k ∧ ri = .int .i64 j ∧ rs = .int .i64 (chSum C pn j) ∧ Hid (Ext wc wr)) (fun _ ri _ => k - (intOf ri).toNat)
        case atStart => exact ⟨0, by omega, rfl, rfl, hide (Ext.refl _)⟩
        case round =>
          obtain ⟨j, hj, rfl, rfl, HX⟩ := hrel
          have HXW := hide (Ext.trans F8.out HX.out)
          by_cases hjt : j < k
          · obtain ⟨b, off, rfl, _⟩ := H.out.addr (by omega)
            obtain ⟨a0, a1⟩ := (H.out.ext HXW.out).pair hjt
            have hnx : j + 1 < k → wr.cell? ⟨b, off + (j + 1) * 2, none⟩ = some (.int .i64 (C.getD (j + 1) (0, 0)).1) := fun h0 => ((H.out.ext HXW.out).pair h0).1
            have x5 : wr.cell? ⟨w.heap.size, 5, none⟩ = some (.slice (some ⟨b, off, none⟩) k cc) := (X7.out.ext HX.out).cell 5
            have x6 : wr.cell? ⟨w.heap.size, 6, none⟩ = some (.slice pA pn pc) := (X7.out.ext HX.out).cell 6
            obtain ⟨s1, s2, s3⟩ := HSB.out j hjt
            have hcx := (ch_ok HZ.out j (by omega)).1
            obtain ⟨S1, hS1⟩ : ∃ S1, S1 = chSum C pn (j + 1) := ⟨_, rfl⟩
            have hs : S1 = chSum C pn j + (nextC C pn j - (C.getD j (0, 0)).1) * (C.getD j (0, 0)).2 := hS1
            have HS1 := hide hS1
            have HNX : Hid (nextC C pn j = if j + 1 < k then (C.getD (j + 1) (0, 0)).1 else (pn : Int) + 1) := hide (by unfold nextC; rw [HL.out])
            clear hS1
            generalize chSum C pn j = S0 at *
            generalize nextC C pn j = nx at *
            generalize (C.getD j (0, 0)).1 = x at *
            generalize (C.getD j (0, 0)).2 = y at *
            generalize (C.getD (j + 1) (0, 0)).1 = qx at *
            have i1 : (j : Int) < (k : Int) := by omega
            have i0 : (0 : Int) ≤ (j : Int) := by omega
            have i8 : IntKind.i64.wrap ((j : Int) + 1) = (j : Int) + 1 := by rw [IntKind.wrap_i64]; omega
            have u0 : IntKind.i64.wrap ((pn : Int) + 1) = (pn : Int) + 1 := by rw [IntKind.wrap_i64]; omega
            have u1 : IntKind.i64.wrap (nx - x) = nx - x := by rw [IntKind.wrap_i64]; omega
            obtain ⟨q, hq⟩ : ∃ q, q = (nx - x) * y := ⟨_, rfl⟩
            rw [← hq] at s3 hs
            have u2 : IntKind.i64.wrap ((nx - x) * y) = q := by rw [← hq, IntKind.wrap_i64]; omega
            have u3 : IntKind.i64.wrap (S0 + q) = S1 := by rw [IntKind.wrap_i64]; omega
            clear s1 s2 s3 hcx hs hq
            by_cases hjn : j + 1 < k
            · have e1 : nx = qx := by rw [HNX.out, if_pos hjn]
              subst e1
              have n1 := hnx hjn
              have d0 : (j : Int) + 1 < (k : Int) := by omega
              have d1 : decide ((j : Int) + 1 < (k : Int)) = true := by simp; omega
              have d2 : decide (j + 1 < k) = true := by simp; omega
              have i3 : ((j : Int) + 1).toNat = j + 1 := by omega
              have i4 : (0 : Int) ≤ (j : Int) + 1 := by omega
              clear hnx hjn
              go_upto_region 16 with (fail)
              refine gen_wpC fun w6 h6 => ?_
              have F6 : Hid (Ext wr w6) := hide (by rw [h6]; exact Ext.alloc _ _)
              have y0 : w6.cell? ⟨wr.heap.size, 0, none⟩ = some (.int .i64 x) := by rw [h6]; exact (Blk.new wr _ _).cell 0
              have y1 : w6.cell? ⟨wr.heap.size, 1, none⟩ = some (.int .i64 y) := by rw [h6]; exact (Blk.new wr _ _).cell 1
              have y5 := F6.out.cell x5
              have y6 := F6.out.cell x6
              have n2 := F6.out.cell n1
              clear h6 a0 a1 x5 x6 n1
              go_wp2_with fail
              exact ⟨⟨j + 1, by omega, by go_num, by rw [HS1.out], hide (Ext.trans HX.out F6.out)⟩, by simp [intOf]; omega⟩
            · have e1 : nx = (pn : Int) + 1 := by rw [HNX.out, if_neg hjn]
              subst e1
              have d0 : ¬ (j : Int) + 1 < (k : Int) := by omega
              have d1 : decide ((j : Int) + 1 < (k : Int)) = false := by simp; omega
              have d2 : decide (j + 1 < k) = false := by simp; omega
              clear hnx hjn
              go_upto_region 16 with (fail)
              refine gen_wpC fun w6 h6 => ?_
              have F6 : Hid (Ext wr w6) := hide (by rw [h6]; exact Ext.alloc _ _)
              have y0 : w6.cell? ⟨wr.heap.size, 0, none⟩ = some (.int .i64 x) := by rw [h6]; exact (Blk.new wr _ _).cell 0
              have y1 : w6.cell? ⟨wr.heap.size, 1, none⟩ = some (.int .i64 y) := by rw [h6]; exact (Blk.new wr _ _).cell 1
              have y5 := F6.out.cell x5
              have y6 := F6.out.cell x6
              clear h6 a0 a1 x5 x6
              go_wp2_with fail
              exact ⟨⟨j + 1, by omega, by go_num, by rw [HS1.out], hide (Ext.trans HX.out F6.out)⟩, by simp [intOf]; omega⟩
          · obtain rfl : j = k := by omega
            have x6 : wr.cell? ⟨w.heap.size, 6, none⟩ = some (.slice pA pn pc) := (X7.out.ext HX.out).cell 6
            clear hjt HSB
            generalize chSum C pn j = S at *
            by_cases hsn : S = n
            · have HCH : Hid (chunksF n C P = firstF (plEl P) pn) := hide (by rw [HCG2.out, if_neg (by omega)])
              have d0 : (S != n) = false := by simp [hsn]
              clear hsn HCG2
              go_upto_region 24 with (fail)
              refine gen_wpC fun w9 h9 => ?_
              have F9 : Hid (Ext w w9) := hide (by rw [h9]; exact HXW.out)
              clear h9 x6
              go_loopw [123] (fun ri wr => ∃ i : Nat, i ≤ pn ∧ ri = .int .i64 i ∧ Hid (∀ m, m < i → plEl P m = 0) ∧ Hid (Ext w9 wr)) (fun ri _ => pn - (intOf ri).toNat)
              case atStart => exact ⟨0, by omega, rfl, hide (fun j hj => by omega), hide (Ext.refl _)⟩
              case round =>
                obtain ⟨i, hi, rfl, HA, HY⟩ := hrel
                have HYW := hide (Ext.trans F9.out HY.out)
                by_cases hit : i < pn
                · obtain ⟨b, off, rfl, _⟩ := HP.out.addr (by omega)
                  have a0 := (HP.out.ext HYW.out).num hit
                  have hel : plEl P i = if P.getD i 0 < 0 ∨ 1000000 < P.getD i 0 then 1 else 0 := rfl
                  have HS : Hid (plEl P i = 0 → ∀ m, m < i + 1 → plEl P m = 0) := hide (fun h0 m hm => by
                    rcases Nat.lt_succ_iff_lt_or_eq.1 hm with h | h
                    · exact HA.out m h
                    · rw [h]; exact h0)
                  have HB := hide (HPB.out i hit HA.out)
                  generalize P.getD i 0 = x at *
                  have i1 : (i : Int) < (pn : Int) := by omega
                  have i0 : (0 : Int) ≤ (i : Int) := by omega
                  have i8 : IntKind.i64.wrap ((i : Int) + 1) = (i : Int) + 1 := by rw [IntKind.wrap_i64]; omega
                  by_cases hx : x < 0 ∨ 1000000 < x
                  · rw [if_pos hx] at hel
                    have HE : Hid (chunksF n C P = 1) := hide (by have := HB.out (by omega); rw [HCH.out]; omega)
                    clear hel
                    go_wp2_with ((go_at_call 14; with_reducible refine (out_yes hx _).mono ?_); rintro e w' ⟨rfl, rfl⟩)
                    go_ret
                    exact ⟨ret_int HE.out.symm, HYW.out⟩
                  · rw [if_neg hx] at hel
                    have hx2 : 0 ≤ x ∧ x ≤ 1000000 := by omega
                    have HE := hide (HS.out hel)
                    clear hel hx
                    go_wp2_with ((go_at_call 14; with_reducible refine (out_no hx2 _).mono ?_); rintro e w' ⟨rfl, rfl⟩)
                    exact ⟨⟨i + 1, by omega, by go_num, HE, HY⟩, by simp [intOf]; omega⟩
                · obtain rfl : i = pn := by omega
                  have HE : Hid (chunksF n C P = 0) := hide (by rw [HCH.out]; exact firstF_zero HA.out)
                  clear hit
                  go_wp2_with fail
                  go_ret
                  exact ⟨ret_int HE.out.symm, HYW.out⟩
            · have HE : Hid (chunksF n C P = 3) := hide (by rw [HCG2.out, if_pos hsn])
              have d0 : (S != n) = true := by simp [hsn]
              clear hsn HCG2
              go_wp2_with fail
              go_ret
              exact ⟨ret_int HE.out.symm, HXW.out⟩
end Go.Proofs.Ytkbmgakehlmcnaa
namespace Go.Proofs.Ytkbmgakehlmcnaa
structure Rd where
  pos : Nat
  bad : Bool
def rdN (b : List UInt8) (k : Nat) (s : Rd) : Nat × Rd := if s.bad = true ∨ b.length - s.pos < k then (0, ⟨s.pos, true⟩) else (numB (cutB b s.pos (s.pos + k)), ⟨s.pos + k, false⟩)
def rdF (b : List UInt8) (most : Nat) (s : Rd) : Nat × Rd := if (rdN b 1 s).2.bad = false ∧ most < (rdN b 1 s).1 then ((rdN b 1 s).1, ⟨s.pos, true⟩) else rdN b 1 s
def rdE (b : List UInt8) (s : Rd) : Rd := if s.bad = false ∧ s.pos < b.length then ⟨s.pos, true⟩ else s
theorem rdN_bad {b : List UInt8} {k : Nat} {s : Rd} (h : s.bad = true ∨ b.length - s.pos < k) : rdN b k s = (0, ⟨s.pos, true⟩) := by unfold rdN; rw [if_pos h]
theorem rdN_ok {b : List UInt8} {k : Nat} {s : Rd} (h : s.bad = false) (h2 : k ≤ b.length - s.pos) : rdN b k s = (numB (cutB b s.pos (s.pos + k)), ⟨s.pos + k, false⟩) := by
  unfold rdN; rw [if_neg (by rw [h]; simp; omega)]
theorem rdN_pos {b : List UInt8} {k : Nat} {s : Rd} (h : s.pos ≤ b.length) : (rdN b k s).2.pos ≤ b.length := by
  unfold rdN
  split
  · exact h
  · rename_i hc
    have : ¬ b.length - s.pos < k := fun h1 => hc (.inr h1)
    show s.pos + k ≤ b.length
    omega
theorem cutB_len {b : List UInt8} {i k : Nat} (h : i + k ≤ b.length) : (cutB b i (i + k)).length = k := by
  unfold cutB; rw [List.length_take, List.length_drop]; omega
theorem rdN_lt {b : List UInt8} {k : Nat} (s : Rd) (hk : 0 < k) : (rdN b k s).1 < 256 ^ k := by
  unfold rdN
  split
  · exact Nat.pow_pos (by omega)
  · rename_i hc
    have h1 : ¬ b.length - s.pos < k := fun h1 => hc (.inr h1)
    exact numB_lt k _ (cutB_len (by omega))
theorem rdF_pos {b : List UInt8} {most : Nat} {s : Rd} (h : s.pos ≤ b.length) : (rdF b most s).2.pos ≤ b.length := by
  unfold rdF
  split
  · exact h
  · exact rdN_pos h
end Go.Proofs.Ytkbmgakehlmcnaa
