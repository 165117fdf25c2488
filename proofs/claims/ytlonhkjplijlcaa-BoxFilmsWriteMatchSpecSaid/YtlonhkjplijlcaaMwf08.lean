/- Several texts in one: Walk: appendNumber. Conditions as stated; Tables in plain words: what is wrong with them. Plain; Walks: runsFault, counted, chunksFault, CheckTable (program). Conditions as stated. -/
import Derived.Test.YtlonhkjplijlcaaMwf03
import Derived.Test.YtlonhkjplijlcaaMwf01
import Derived.Test.YtlonhkjplijlcaaMwf07
import Derived.Deep.DeepCutAuto
namespace Go.Proofs.Ytlonhkjplijlcaa
open Go.RowKit
/-- What an append of bytes to an own row gives. -/
def AppGives (w0 : World) (base : Nat) (l : List UInt8) (e : Ending) (w' : World) : Prop := ∃ v', e = .returned v' ∧ Own w' base 5 1 e8 v' l ∧ Ext w0 w'
theorem e8_byte (n j : Nat) : e8 (UInt8.ofNat (n / 256 ^ j)) = [.int .u8 ((n : Int) / 2 ^ (8 * j) % 256)] := by
  have h1 : ((UInt8.ofNat (n / 256 ^ j)).toNat : Int) = (n : Int) / 2 ^ (8 * j) % 256 := by
    have h2 : (2 : Int) ^ (8 * j) = ((256 ^ j : Nat) : Int) := by rw [Int.pow_mul, Int.natCast_pow]; rfl
    rw [UInt8.toNat_ofNat', h2, Int.natCast_emod, Int.natCast_ediv]
    rfl
  show [Value.int .u8 _] = _
  rw [h1]
theorem O7b {α : Type} {w0 wr w7 : World} {o : Obj} {base : Nat} {t : TypeId} {sz : Nat} {enc : α → List Value} {v : Value} {xs : List α} (hx : Ext w0 wr) (ho : Own wr base t sz enc v xs) (hg : (wr.alloc o).grownBy w7 v.ownBlock) (hb : w0.heap.size ≤ base) : Ext w0 w7 :=
  (ho.ext (Ext.alloc wr o)).below (Ext.trans hx (Ext.alloc _ _)) hg hb
set_option linter.unusedVariables false in
set_option maxRecDepth 100000 in
set_option maxHeartbeats 2000000 in
theorem appendNumber_any {w0 w : World} {base many n : Nat} {v : Value} {l : List UInt8} (ho : Own w base 5 1 e8 v l) (he : Ext w0 w) (hb : w0.heap.size ≤ base) (hbw : base ≤ w.heap.size) (hm : many ≤ 8) (hn : n < 18446744073709551616) (hl : l.length ≤ 1000000000) :
    Calls Try.prog 41 #[v, .int .u64 (n : Int), .int .i64 (many : Int)] w (AppGives w0 base (l ++ beN many n)) := by
  have HO := hide ho
  have HE := hide he
  clear ho he
  go_enter Try.func41, Try.ntmps41
  go_wp2_with fail
  go_loopw [0, 7] (fun r0 r7 wr => ∃ k : Nat, k ≤ many ∧ r7 = .int .i64 ((k : Int) - 1) ∧ Hid (Own wr base 5 1 e8 r0 (l ++ beN (many - k) (n / 256 ^ k))) ∧ Hid (Ext w0 wr) ∧ Hid (base ≤ wr.heap.size)) (fun _ r7 _ => ((intOf r7) + 1).toNat)
  case atStart => exact ⟨many, by omega, by go_num, hide (by rw [Nat.sub_self]; simpa [beN] using HO.out), HE, hide hbw⟩
  case round =>
    obtain ⟨k, hk, rfl, HK, HX, HBW⟩ := hrel
    by_cases h0 : 0 < k
    · obtain ⟨j, rfl⟩ : ∃ j, k = j + 1 := ⟨k - 1, by omega⟩
      have e1 : ((j + 1 : Nat) : Int) - 1 = (j : Int) := by omega
      rw [e1]
      have i1 : (0 : Int) ≤ (j : Int) := by omega
      have i2 : IntKind.i64.wrap (8 * (j : Int)) = 8 * (j : Int) := by rw [IntKind.wrap_i64]; omega
      have HU : Hid (e8 (UInt8.ofNat (n / 256 ^ j)) = [.int .u8 ((n : Int) / 2 ^ (8 * j) % 256)]) := hide (e8_byte n j)
      have HL : Hid ((l ++ beN (many - (j + 1)) (n / 256 ^ (j + 1))).length + 1 ≤ maxLen) := hide (by rw [List.length_append, beN_len]; unfold maxLen; omega)
      have HL2 : Hid (((l ++ beN (many - (j + 1)) (n / 256 ^ (j + 1))).length + 1) * 1 ≤ 140737488355328) := hide (by rw [List.length_append, beN_len]; omega)
      have HB2 : Hid (base ≤ (wr.alloc (.cells #[.int .u8 ((n : Int) / 2 ^ (8 * j) % 256)] 5)).heap.size) := hide (by rw [World.size_alloc]; have := HBW.out; omega)
      have HE2 : Hid (l ++ beN (many - (j + 1)) (n / 256 ^ (j + 1)) ++ [UInt8.ofNat (n / 256 ^ j)] = l ++ beN (many - j) (n / 256 ^ j)) := hide (by rw [beN_step n j many (by omega), List.append_assoc])
      obtain ⟨i0_, hi0, hz0, hz1, hz2⟩ := info_parts Try.info5
      clear e1
      go_wp2_with (at_builtin; refine wpList_append_at _ rfl (.tmp 14) (.tmp 20) 26 rfl base 5 i0_ _ 1 Try.underlying26 hi0 hz0 hz1 hz2 rfl (by omega) len_e8 one_e8 u0 _ (by rfl) (HK.out.ext (Ext.alloc _ _)) (some ⟨wr.heap.size, 0, none⟩) 1 1 [UInt8.ofNat (n / 256 ^ j)] (by rfl) (At.new1 wr _ _ HU.out _) HL.out HL2.out HB2.out ?_; intro v7 w7 o7 g7 _ r7; have O7 := hide o7; have G7 := hide g7; have R7 := hide r7; clear o7 g7 r7)
      exact ⟨⟨j, by omega, by go_num, hide (by rw [← HE2.out]; exact O7.out), hide (O7b HX.out HK.out G7.out hb), hide (by have := G7.out.size; have := HB2.out; omega)⟩, by simp [intOf]⟩
    · obtain rfl : k = 0 := by omega
      have HV : Hid (l ++ beN (many - 0) (n / 256 ^ 0) = l ++ beN many n) := hide (by simp)
      have i1 : ¬ (0 : Int) ≤ ((0 : Nat) : Int) - 1 := by omega
      have e1 : ((0 : Nat) : Int) - 1 = -1 := by omega
      rw [e1] at i1 ⊢
      clear e1
      go_wp2_with fail
      go_ret
      exact ⟨_, rfl, by rw [← HV.out]; exact HK.out, HX.out⟩
end Go.Proofs.Ytlonhkjplijlcaa
namespace Go.Proofs.Ytlonhkjplijlcaa
/-- A table. -/
structure Tab where
  start : Int
  steps : List (Int × Int)
  shifts : List (Int × Int)
  sizes : List Int
  keys : List Int
  nok : Bool
  chunks : List (Int × Int)
  places : List Int
/-- A run is out of its range. -/
def badR (least : Int) (r : Int × Int) : Bool := decide (r.1 < 1 ∨ 5000 < r.1) || decide (r.2 < least ∨ 1000000000 < r.2)
def rnEl (least : Int) (l : List (Int × Int)) (i : Nat) : Int := if badR least (l.getD i (0, 0)) = true then 1 else 0
def runsF (least : Int) (l : List (Int × Int)) : Int := firstF (rnEl least l) l.length
/-- The counts of the first runs. -/
def cntI (l : List (Int × Int)) : Nat → Int
  | 0 => 0
  | k + 1 => cntI l k + (l.getD k (0, 0)).1
def cntA (l : List (Int × Int)) : Int := cntI l l.length
def szEl (l : List Int) (i : Nat) : Int := if l.getD i 0 < 0 ∨ 100000 < l.getD i 0 then 1 else 0
def kyEl (n : Int) (l : List Int) (i : Nat) : Int := if l.getD i 0 < 1 ∨ n < l.getD i 0 then 1 else if 0 < i ∧ l.getD i 0 ≤ l.getD (i - 1) 0 then 8 else 0
/-- A chunk is out of its range. -/
def badC (r : Int × Int) : Bool := decide (r.1 < 1 ∨ 5000 < r.1) || decide (r.2 < 1 ∨ 1000 < r.2)
def ordC (l : List (Int × Int)) (i : Nat) : Bool := decide ((i = 0 ∧ (l.getD i (0, 0)).1 ≠ 1) ∨ (0 < i ∧ (l.getD i (0, 0)).1 ≤ (l.getD (i - 1) (0, 0)).1))
def chEl (l : List (Int × Int)) (i : Nat) : Int := if badC (l.getD i (0, 0)) = true then 1 else if ordC l i = true then 8 else 0
def chForm (l : List (Int × Int)) (p : Nat) : Prop := (0 < p ∧ l.length = 0) ∨ (0 < l.length ∧ (p : Int) < (l.getD (l.length - 1) (0, 0)).1)
instance (l : List (Int × Int)) (p : Nat) : Decidable (chForm l p) := by unfold chForm; infer_instance
def nextC (l : List (Int × Int)) (p i : Nat) : Int := if i + 1 < l.length then (l.getD (i + 1) (0, 0)).1 else (p : Int) + 1
def chSum (l : List (Int × Int)) (p : Nat) : Nat → Int
  | 0 => 0
  | k + 1 => chSum l p k + (nextC l p k - (l.getD k (0, 0)).1) * (l.getD k (0, 0)).2
def plEl (l : List Int) (i : Nat) : Int := if l.getD i 0 < 0 ∨ 1000000 < l.getD i 0 then 1 else 0
def chunksF (n : Int) (l : List (Int × Int)) (pl : List Int) : Int :=
  if firstF (chEl l) l.length ≠ 0 then firstF (chEl l) l.length else if chForm l pl.length then 3 else if chSum l pl.length l.length ≠ n then 3 else firstF (plEl pl) pl.length
/-- The end of the first runs. -/
def endI (s : Int) (l : List (Int × Int)) : Nat → Int
  | 0 => s
  | k + 1 => endI s l k + (l.getD k (0, 0)).1 * (l.getD k (0, 0)).2
def szBad (n : Int) (m : Nat) : Prop := (m : Int) ≠ n ∧ (n = 0 ∨ m ≠ 1)
instance (n : Int) (m : Nat) : Decidable (szBad n m) := by unfold szBad; infer_instance
/-- The fault of a table behind that of its start and its steps. -/
def tabF3 (t : Tab) : Int :=
  if chunksF (cntA t.steps) t.chunks t.places ≠ 0 then chunksF (cntA t.steps) t.chunks t.places
  else if noT (endI t.start t.steps t.steps.length) = true then 1 else 0
def tabF2 (t : Tab) : Int :=
  if cntA t.shifts ≠ cntA t.steps ∨ szBad (cntA t.steps) t.sizes.length then 3
  else if firstF (szEl t.sizes) t.sizes.length ≠ 0 then firstF (szEl t.sizes) t.sizes.length
  else if firstF (kyEl (cntA t.steps) t.keys) t.keys.length ≠ 0 then firstF (kyEl (cntA t.steps) t.keys) t.keys.length
  else tabF3 t
def tabF (t : Tab) : Int :=
  if noT t.start = true then 1 else if runsF 0 t.steps ≠ 0 then runsF 0 t.steps else if 5000 < cntA t.steps then 2
  else if runsF (-1000000000) t.shifts ≠ 0 then runsF (-1000000000) t.shifts else tabF2 t
theorem badR_ok {least : Int} {r : Int × Int} (h : badR least r = false) : 1 ≤ r.1 ∧ r.1 ≤ 5000 ∧ least ≤ r.2 ∧ r.2 ≤ 1000000000 := by
  unfold badR at h
  simp only [Bool.or_eq_false_iff, decide_eq_false_iff_not] at h
  omega
theorem runs_ok {least : Int} {l : List (Int × Int)} (h : runsF least l = 0) : ∀ i, i < l.length → 1 ≤ (l.getD i (0, 0)).1 ∧ (l.getD i (0, 0)).1 ≤ 5000 ∧ least ≤ (l.getD i (0, 0)).2 ∧ (l.getD i (0, 0)).2 ≤ 1000000000 := by
  intro i hi
  have := firstF_all h i hi
  unfold rnEl at this
  cases hb : badR least (l.getD i (0, 0)) with
  | true => rw [hb, if_pos rfl] at this; omega
  | false => exact badR_ok hb
theorem cntI_bd {least : Int} {l : List (Int × Int)} (h : runsF least l = 0) : ∀ k, k ≤ l.length → (k : Int) ≤ cntI l k ∧ cntI l k ≤ 5000 * (k : Int)
  | 0, _ => by simp [cntI]
  | k + 1, hk => by
    have ih := cntI_bd h k (by omega)
    have := runs_ok h k (by omega)
    rw [cntI]; omega
theorem endI_bd {s : Int} {l : List (Int × Int)} (h : runsF 0 l = 0) : ∀ k, k ≤ l.length → s ≤ endI s l k ∧ endI s l k ≤ s + 1000000000 * cntI l k
  | 0, _ => by simp [endI, cntI]
  | k + 1, hk => by
    have ih := endI_bd (s := s) h k (by omega)
    have h1 := runs_ok h k (by omega)
    have hc := cntI_bd h k (by omega)
    rw [endI, cntI]
    have h2 : 0 ≤ (l.getD k (0, 0)).1 * (l.getD k (0, 0)).2 := Int.mul_nonneg (by omega) (by omega)
    have h3 : (l.getD k (0, 0)).1 * (l.getD k (0, 0)).2 ≤ (l.getD k (0, 0)).1 * 1000000000 := Int.mul_le_mul_of_nonneg_left (by omega) (by omega)
    generalize (l.getD k (0, 0)).1 * (l.getD k (0, 0)).2 = q at *
    omega
theorem badC_ok {r : Int × Int} (h : badC r = false) : 1 ≤ r.1 ∧ r.1 ≤ 5000 ∧ 1 ≤ r.2 ∧ r.2 ≤ 1000 := by
  unfold badC at h
  simp only [Bool.or_eq_false_iff, decide_eq_false_iff_not] at h
  omega
/-- Chunks that are right: ascending from 1 on. -/
theorem ch_ok {l : List (Int × Int)} (h : firstF (chEl l) l.length = 0) : ∀ i, i < l.length → (1 ≤ (l.getD i (0, 0)).1 ∧ (l.getD i (0, 0)).1 ≤ 5000 ∧ 1 ≤ (l.getD i (0, 0)).2 ∧ (l.getD i (0, 0)).2 ≤ 1000) ∧ (i = 0 → (l.getD i (0, 0)).1 = 1) ∧ (0 < i → (l.getD (i - 1) (0, 0)).1 < (l.getD i (0, 0)).1) := by
  intro i hi
  have := firstF_all h i hi
  unfold chEl at this
  cases hb : badC (l.getD i (0, 0)) with
  | true => rw [hb, if_pos rfl] at this; omega
  | false =>
    rw [hb, if_neg (by simp)] at this
    refine ⟨badC_ok hb, ?_⟩
    cases ho : ordC l i with
    | true => rw [ho, if_pos rfl] at this; omega
    | false =>
      unfold ordC at ho
      simp only [decide_eq_false_iff_not] at ho
      constructor
      · intro h0; exact Classical.byContradiction fun hc => ho (.inl ⟨h0, hc⟩)
      · intro h0; exact Int.not_le.1 fun hc => ho (.inr ⟨h0, hc⟩)
theorem ch_asc {l : List (Int × Int)} (h : firstF (chEl l) l.length = 0) : ∀ i, i < l.length → (i : Int) + 1 ≤ (l.getD i (0, 0)).1
  | 0, hi => by have := (ch_ok h 0 hi).2.1 rfl; omega
  | i + 1, hi => by
    have ih := ch_asc h i (by omega)
    have := (ch_ok h (i + 1) hi).2.2 (by omega)
    rw [show i + 1 - 1 = i by omega] at this
    omega
theorem ch_len {l : List (Int × Int)} (h : firstF (chEl l) l.length = 0) : l.length ≤ 5000 := by
  rcases Nat.eq_zero_or_pos l.length with h0 | h0
  · omega
  · have h1 := ch_asc h (l.length - 1) (by omega)
    have h2 := (ch_ok h (l.length - 1) (by omega)).1
    omega
/-- The partial sums don't run over. -/
theorem chSum_bd {l : List (Int × Int)} {p : Nat} (h : firstF (chEl l) l.length = 0) (hf : ¬ chForm l p) : ∀ k, k < l.length → (0 ≤ chSum l p k ∧ chSum l p k ≤ 1000 * ((l.getD k (0, 0)).1 - 1)) ∧ (1 ≤ nextC l p k - (l.getD k (0, 0)).1 ∧ nextC l p k ≤ (p : Int) + 5001) ∧ (1 ≤ (nextC l p k - (l.getD k (0, 0)).1) * (l.getD k (0, 0)).2 ∧ (nextC l p k - (l.getD k (0, 0)).1) * (l.getD k (0, 0)).2 ≤ 1000 * (nextC l p k - (l.getD k (0, 0)).1)) := by
  have hstep : ∀ k, k < l.length → (1 ≤ nextC l p k - (l.getD k (0, 0)).1 ∧ nextC l p k ≤ (p : Int) + 5001) ∧ (1 ≤ (nextC l p k - (l.getD k (0, 0)).1) * (l.getD k (0, 0)).2 ∧ (nextC l p k - (l.getD k (0, 0)).1) * (l.getD k (0, 0)).2 ≤ 1000 * (nextC l p k - (l.getD k (0, 0)).1)) := by
    intro k hk
    have h1 := (ch_ok h k hk).1
    have h2 : 1 ≤ nextC l p k - (l.getD k (0, 0)).1 ∧ nextC l p k ≤ (p : Int) + 5001 := by
      unfold nextC
      split
      · rename_i h3
        have h4 := (ch_ok h (k + 1) h3).2.2 (by omega)
        have h5 := (ch_ok h (k + 1) h3).1
        rw [show k + 1 - 1 = k by omega] at h4
        omega
      · rename_i h3
        have h4 : ¬ ((p : Int) < (l.getD (l.length - 1) (0, 0)).1) := fun hc => hf (.inr ⟨by omega, hc⟩)
        rw [show l.length - 1 = k by omega] at h4
        omega
    refine ⟨h2, ?_⟩
    generalize nextC l p k - (l.getD k (0, 0)).1 = d at *
    have h6 : d * 1 ≤ d * (l.getD k (0, 0)).2 := Int.mul_le_mul_of_nonneg_left (by omega) (by omega)
    have h7 : d * (l.getD k (0, 0)).2 ≤ d * 1000 := Int.mul_le_mul_of_nonneg_left (by omega) (by omega)
    omega
  intro k
  induction k with
  | zero =>
    intro hk
    have := (ch_ok h 0 hk).2.1 rfl
    exact ⟨by rw [chSum]; omega, hstep 0 hk⟩
  | succ k ih =>
    intro hk
    have ih := ih (by omega)
    refine ⟨?_, hstep _ hk⟩
    have h8 : nextC l p k = (l.getD (k + 1) (0, 0)).1 := by unfold nextC; rw [if_pos hk]
    rw [chSum]
    rw [h8] at ih ⊢
    omega
theorem tabF_start {t : Tab} (h : noT t.start = true) : tabF t = 1 := by unfold tabF; rw [if_pos h]
theorem tabF_steps {t : Tab} (h : noT t.start = false) (h1 : runsF 0 t.steps ≠ 0) : tabF t = runsF 0 t.steps := by unfold tabF; rw [if_neg (by rw [h]; simp), if_pos h1]
theorem tabF_large {t : Tab} (h : noT t.start = false) (h1 : runsF 0 t.steps = 0) (h2 : 5000 < cntA t.steps) : tabF t = 2 := by unfold tabF; rw [if_neg (by rw [h]; simp), if_neg (by omega), if_pos h2]
theorem tabF_shifts {t : Tab} (h : noT t.start = false) (h1 : runsF 0 t.steps = 0) (h2 : ¬ 5000 < cntA t.steps) (h3 : runsF (-1000000000) t.shifts ≠ 0) : tabF t = runsF (-1000000000) t.shifts := by unfold tabF; rw [if_neg (by rw [h]; simp), if_neg (by omega), if_neg h2, if_pos h3]
theorem tabF_two {t : Tab} (h : noT t.start = false) (h1 : runsF 0 t.steps = 0) (h2 : ¬ 5000 < cntA t.steps) (h3 : runsF (-1000000000) t.shifts = 0) : tabF t = tabF2 t := by unfold tabF; rw [if_neg (by rw [h]; simp), if_neg (by omega), if_neg h2, if_neg (by omega)]
theorem tabF2_form {t : Tab} (h : cntA t.shifts ≠ cntA t.steps ∨ szBad (cntA t.steps) t.sizes.length) : tabF2 t = 3 := by unfold tabF2; rw [if_pos h]
theorem tabF2_sizes {t : Tab} (h : ¬ (cntA t.shifts ≠ cntA t.steps ∨ szBad (cntA t.steps) t.sizes.length)) (h1 : firstF (szEl t.sizes) t.sizes.length ≠ 0) : tabF2 t = firstF (szEl t.sizes) t.sizes.length := by unfold tabF2; rw [if_neg h, if_pos h1]
theorem tabF2_keys {t : Tab} (h : ¬ (cntA t.shifts ≠ cntA t.steps ∨ szBad (cntA t.steps) t.sizes.length)) (h1 : firstF (szEl t.sizes) t.sizes.length = 0) (h2 : firstF (kyEl (cntA t.steps) t.keys) t.keys.length ≠ 0) : tabF2 t = firstF (kyEl (cntA t.steps) t.keys) t.keys.length := by unfold tabF2; rw [if_neg h, if_neg (by omega), if_pos h2]
theorem tabF2_three {t : Tab} (h : ¬ (cntA t.shifts ≠ cntA t.steps ∨ szBad (cntA t.steps) t.sizes.length)) (h1 : firstF (szEl t.sizes) t.sizes.length = 0) (h2 : firstF (kyEl (cntA t.steps) t.keys) t.keys.length = 0) : tabF2 t = tabF3 t := by unfold tabF2; rw [if_neg h, if_neg (by omega), if_neg (by omega)]
end Go.Proofs.Ytlonhkjplijlcaa
namespace Go.Proofs.Ytlonhkjplijlcaa
open Go.RowKit
theorem At.pairK {w : World} {b off n c : Nat} {l : List (Int × Int)} (h : At w 2 e2 (some ⟨b, off, none⟩) n c l) {k : Nat} (hk : k < n) :
    w.cell? ⟨b, off + k * 2, none⟩ = some (.int .i64 (l.getD k (0, 0)).1) ∧ w.cell? ⟨b, off + k * 2 + 1, none⟩ = some (.int .i64 (l.getD k (0, 0)).2) := h.pair hk
set_option linter.unusedVariables false in
set_option maxRecDepth 100000 in
set_option maxHeartbeats 4000000 in
theorem runsFault_any {A : Option Addr} {n c : Nat} {l : List (Int × Int)} {least : Int} {w : World} (h : At w 2 e2 A n c l) :
    Calls Try.prog 83 #[.slice A n c, .int .i64 least] w fun e w' => e = .returned (.int .i64 (runsF least l)) ∧ Ext w w' := by
  have hb := h.bound
  have H := hide h
  have HL := hide h.len
  have HBAD := hide (fun (k : Nat) (hk : k < n) (ha : ∀ j, j < k → rnEl least l j = 0) (hn : rnEl least l k ≠ 0) => (firstF_at ha hn (n := l.length) (by rw [h.len]; exact hk) : firstF (rnEl least l) l.length = rnEl least l k))
  have HOK := hide (fun (ha : ∀ j, j < n → rnEl least l j = 0) => (firstF_zero (fun j hj => ha j (by rw [← h.len]; exact hj)) : firstF (rnEl least l) l.length = 0))
  clear h
  go_enter Try.func83, Try.ntmps83
  go_wp2_with fail
  go_loopw [9] (fun ri wr => ∃ k : Nat, k ≤ n ∧ ri = .int .i64 k ∧ Hid (∀ j, j < k → rnEl least l j = 0) ∧ Hid (Ext w wr)) (fun ri _ => n - (intOf ri).toNat)
  case atStart => exact ⟨0, by omega, rfl, hide (fun j hj => by omega), hide (Ext.refl _)⟩
  case round =>
    obtain ⟨k, hk, rfl, HA, HX⟩ := hrel
    by_cases hlt : k < n
    · obtain ⟨b, off, rfl, _⟩ := H.out.addr (by omega)
      obtain ⟨a0, a1⟩ := (H.out.ext HX.out).pair hlt
      have hel : rnEl least l k = if badR least (l.getD k (0, 0)) = true then 1 else 0 := rfl
      have hbr : badR least (l.getD k (0, 0)) = (decide ((l.getD k (0, 0)).1 < 1 ∨ 5000 < (l.getD k (0, 0)).1) || decide ((l.getD k (0, 0)).2 < least ∨ 1000000000 < (l.getD k (0, 0)).2)) := rfl
      have HS : Hid (rnEl least l k = 0 → ∀ j, j < k + 1 → rnEl least l j = 0) := hide (fun h0 j hj => by
        rcases Nat.lt_succ_iff_lt_or_eq.1 hj with h | h
        · exact HA.out j h
        · rw [h]; exact h0)
      have HB := hide (HBAD.out k hlt HA.out)
      generalize (l.getD k (0, 0)).1 = x at *
      generalize (l.getD k (0, 0)).2 = y at *
      have i1 : (k : Int) < (n : Int) := by omega
      have i0 : (0 : Int) ≤ (k : Int) := by omega
      have i8 : IntKind.i64.wrap ((k : Int) + 1) = (k : Int) + 1 := by rw [IntKind.wrap_i64]; omega
      by_cases hx : x < 1 ∨ 5000 < x
      · have HE : Hid (runsF least l = 1) := hide (by
          have h1 : rnEl least l k = 1 := by rw [hel, hbr, if_pos]; simp [hx]
          have := HB.out (by omega)
          unfold runsF; omega)
        clear hel hbr
        go_wp2_with ((go_at_call 15; with_reducible refine (out_yes hx _).mono ?_); rintro e w' ⟨rfl, rfl⟩)
        go_ret
        exact ⟨ret_int HE.out.symm, Ext.trans HX.out (by repeat' (first | (with_reducible exact Below.refl _ _) | (with_reducible assumption) | (with_reducible refine below_drewN ?_ _) | (with_reducible refine Below.drew ?_) | (with_reducible refine ext_alloc ?_ _) | (with_reducible refine Below.setCell ?_ ?_ _) | go_size))⟩
      · have hx2 : 1 ≤ x ∧ x ≤ 5000 := by omega
        by_cases hy : y < least ∨ 1000000000 < y
        · have HE : Hid (runsF least l = 1) := hide (by
            have h1 : rnEl least l k = 1 := by rw [hel, hbr, if_pos]; simp [hy]
            have := HB.out (by omega)
            unfold runsF; omega)
          clear hel hbr hx
          go_wp2_with (first | ((go_at_call 15; with_reducible refine (out_no hx2 _).mono ?_); rintro e w' ⟨rfl, rfl⟩) | ((go_at_call 15; with_reducible refine (out_yes hy _).mono ?_); rintro e w' ⟨rfl, rfl⟩))
          go_ret
          exact ⟨ret_int HE.out.symm, Ext.trans HX.out (by repeat' (first | (with_reducible exact Below.refl _ _) | (with_reducible assumption) | (with_reducible refine below_drewN ?_ _) | (with_reducible refine Below.drew ?_) | (with_reducible refine ext_alloc ?_ _) | (with_reducible refine Below.setCell ?_ ?_ _) | go_size))⟩
        · have hy2 : least ≤ y ∧ y ≤ 1000000000 := by omega
          have HE : Hid (rnEl least l k = 0) := hide (by rw [hel, hbr, if_neg]; simp [hx, hy])
          clear hel hbr hx hy
          go_wp2_with (first | ((go_at_call 15; with_reducible refine (out_no hx2 _).mono ?_); rintro e w' ⟨rfl, rfl⟩) | ((go_at_call 15; with_reducible refine (out_no hy2 _).mono ?_); rintro e w' ⟨rfl, rfl⟩))
          exact ⟨⟨k + 1, by omega, by go_num, hide (HS.out HE.out), hide (Ext.trans HX.out (by repeat' (first | (with_reducible exact Below.refl _ _) | (with_reducible assumption) | (with_reducible refine below_drewN ?_ _) | (with_reducible refine Below.drew ?_) | (with_reducible refine ext_alloc ?_ _) | (with_reducible refine Below.setCell ?_ ?_ _) | go_size)))⟩, by simp [intOf]; omega⟩
    · obtain rfl : k = n := by omega
      have HE : Hid (runsF least l = 0) := hide (HOK.out HA.out)
      clear hlt
      go_wp2_with fail
      go_ret
      exact ⟨ret_int HE.out.symm, HX.out⟩
set_option linter.unusedVariables false in
set_option maxRecDepth 100000 in
set_option maxHeartbeats 4000000 in
theorem counted_any {A : Option Addr} {n c : Nat} {l : List (Int × Int)} {least : Int} {w : World} (h : At w 2 e2 A n c l) (hr : runsF least l = 0) (hn : n ≤ 17592186044416) :
    Calls Try.prog 84 #[.slice A n c] w fun e w' => e = .returned (.int .i64 (cntA l)) ∧ Ext w w' := by
  have hb := h.bound
  have H := hide h
  have HL := hide h.len
  have HBD := hide (fun (k : Nat) (hk : k ≤ n) => cntI_bd hr k (by rw [h.len]; exact hk))
  clear h hr
  go_enter Try.func84, Try.ntmps84
  go_wp2_with fail
  go_loopw [3, 8] (fun rs ri wr => ∃ k : Nat, k ≤ n ∧ ri = .int .i64 k ∧ rs = .int .i64 (cntI l k) ∧ Hid (Ext w wr)) (fun _ ri _ => n - (intOf ri).toNat)
  case atStart => exact ⟨0, by omega, rfl, rfl, hide (Ext.refl _)⟩
  case round =>
    obtain ⟨k, hk, rfl, rfl, HX⟩ := hrel
    by_cases hlt : k < n
    · obtain ⟨b, off, rfl, _⟩ := H.out.addr (by omega)
      obtain ⟨a0, a1⟩ := (H.out.ext HX.out).pair hlt
      have hs : cntI l (k + 1) = cntI l k + (l.getD k (0, 0)).1 := rfl
      have hb1 := HBD.out (k + 1) (by omega)
      obtain ⟨C1, hC1⟩ : ∃ C1, C1 = cntI l (k + 1) := ⟨_, rfl⟩
      rw [← hC1] at hs hb1
      have HC1 := hide hC1
      clear hC1
      generalize cntI l k = C0 at *
      generalize (l.getD k (0, 0)).1 = x at *
      generalize (l.getD k (0, 0)).2 = y at *
      have i1 : (k : Int) < (n : Int) := by omega
      have i0 : (0 : Int) ≤ (k : Int) := by omega
      have i8 : IntKind.i64.wrap ((k : Int) + 1) = (k : Int) + 1 := by rw [IntKind.wrap_i64]; omega
      have u1 : IntKind.i64.wrap (C0 + x) = C1 := by rw [IntKind.wrap_i64]; omega
      clear hs hb1
      go_wp2_with fail
      exact ⟨⟨k + 1, by omega, by go_num, by rw [HC1.out], hide (Ext.trans HX.out (by repeat' (first | (with_reducible exact Below.refl _ _) | (with_reducible assumption) | (with_reducible refine below_drewN ?_ _) | (with_reducible refine Below.drew ?_) | (with_reducible refine ext_alloc ?_ _) | (with_reducible refine Below.setCell ?_ ?_ _) | go_size)))⟩, by simp [intOf]; omega⟩
    · obtain rfl : k = n := by omega
      have HE : Hid (cntA l = cntI l k) := hide (by unfold cntA; rw [HL.out])
      clear hlt
      go_wp2_with fail
      go_ret
      exact ⟨ret_int HE.out.symm, HX.out⟩
end Go.Proofs.Ytlonhkjplijlcaa
