/- Several texts in one: Walk: runs of the program's source. Conditions as stated; Walk: values (reference). Conditions as stated; Tables in plain words: how many samples a chunk has, and that both ways of counting them agree. Plain; A right table has few elements. Plain; Plain: what a table tells (Expand): its samples, where they lie, and the fault. Conditions as stated. -/
import Derived.Test.YtlonhkjplijlcaaMfd08
import Derived.StillTailTactics
import Derived.Test.YtlonhkjplijlcaaMfd06
namespace Go.Proofs.Ytlonhkjplijlcaa
open Go.RowKit
theorem Try.info119 : (Try.prog.info? 119).map (fun i => (i.zero, i.size, i.bytes)) = some (some (.agg #[.int .i64 0, .int .i64 0]), 2, 16) := by kernel_rfl
def RnGives (w : World) (sb : Nat) (A : Option Addr) (n c : Nat) (l : List (Int × Int)) (q : Rd) (e : Ending) (w' : World) : Prop :=
  ∃ T k tc, e = .returned (.slice T k tc) ∧ At w' 2 e2 T k tc l ∧ Blk w' sb 157 (srcC A n c q) ∧ Tw w w' sb none ∧ ∀ a, T = some a → w.heap.size ≤ a.block
theorem half_lt {i k N : Nat} (hi : i = 2 * k) (h : i + 1 < N) : k + 1 ≤ N / 2 := by omega
set_option linter.unusedVariables false in
set_option maxRecDepth 100000 in
set_option maxHeartbeats 8000000 in
theorem srcRuns_any {sb : Nat} {A : Option Addr} {n c : Nat} {b : List UInt8} {s : Rd} {w : World} (hB : Blk w sb 157 (srcC A n c s)) (h : At w 1 e8 A n c b) (hne : 0 < n → ∀ a, A = some a → a.block ≠ sb) (hp : s.pos ≤ n) (hn : n ≤ 1000000) :
    Calls Try.prog 99 #[.pointer (some ⟨sb, 0, none⟩)] w (RnGives w sb A n c (prL (lsF b 2 s).1) (lsF b 2 s).2) := by
  have HLS := hide (srcList_any hB h hne hp (z := 2) (each := 2) rfl (by omega))
  have hsb := hB.lt
  have hfew := lsH_few b 2 s
  rw [h.len, ← lsF_len] at hfew
  obtain ⟨i0_, hi0, hz0, hz1, hz2⟩ := info_parts Try.info119
  clear hB h hne
  go_enter Try.func99, Try.ntmps99
  go_wp2_with fail
  with_reducible refine HLS.out.mono ?_
  rintro e w1 ⟨T, N, tc, rfl, a1, b1, t1, l1⟩
  have A1 := hide a1
  have B1 := hide b1
  have T1 := hide t1
  have L1 := hide l1
  have hNl := a1.len
  rw [hNl] at hfew
  have hsz1 := t1.size
  generalize (lsF b 2 s).2 = q at *
  generalize (lsF b 2 s).1 = l at *
  have HNL := hide hNl
  clear a1 b1 t1 l1 HLS hNl
  go_wp2_with fail
  go_loopw [4, 5] (fun r4 ri wr => ∃ k i : Nat, i = 2 * k ∧ k ≤ N / 2 ∧ ri = .int .i64 i ∧ Hid (Own wr w1.heap.size 119 2 e2 r4 (prK l k)) ∧ Hid (Ext w1 wr)) (fun _ ri _ => N + 2 - (intOf ri).toNat)
  case atStart => exact ⟨0, 0, rfl, Nat.zero_le _, rfl, hide (Own.nil _ _ _ _ _), hide (Ext.refl _)⟩
  case round =>
    obtain ⟨k, i, hik, hk, rfl, HO, HX⟩ := hrel
    have i8 : IntKind.i64.wrap ((i : Int) + 1) = (i : Int) + 1 := by rw [IntKind.wrap_i64]; omega
    have i9 : IntKind.i64.wrap ((i : Int) + 2) = (i : Int) + 2 := by rw [IntKind.wrap_i64]; omega
    by_cases hlt : i + 1 < N
    · obtain ⟨bT, oT, rfl, _⟩ := A1.out.addr (by omega)
      have hat := A1.out.ext HX.out
      have a0 := hat.num (k := i) (by omega)
      have a1 := hat.num (k := i + 1) (by omega)
      have HSU : Hid (prK l (k + 1) = prK l k ++ [(l.getD i 0, l.getD (i + 1) 0)]) := hide (by rw [prK_succ, hik])
      have c0 := A1.out.num (k := i) (by omega)
      have c1 := A1.out.num (k := i + 1) (by omega)
      generalize l.getD i 0 = x at *
      generalize l.getD (i + 1) 0 = y at *
      have i1 : (i : Int) + 1 < (N : Int) := by omega
      have i2 : (i : Int) < (N : Int) := by omega
      have i0 : (0 : Int) ≤ (i : Int) := by omega
      have i3 : ((i : Int) + 1).toNat = i + 1 := by omega
      have i4 : (0 : Int) ≤ (i : Int) + 1 := by omega
      have hlk : (prK l k).length = k := prK_len _ _
      have S1 : Hid ((prK l k).length + 1 ≤ maxLen) := hide (by rw [hlk]; unfold maxLen; omega)
      have S2 : Hid (((prK l k).length + 1) * 16 ≤ 140737488355328) := hide (by rw [hlk]; omega)
      have S3 : Hid (w1.heap.size ≤ (wr.drew.alloc (.cells #[.int .i64 x, .int .i64 y] 119)).heap.size) := hide (by have := HX.out.size; rw [World.size_alloc]; show w1.heap.size ≤ wr.heap.size + 1; omega)
      have HK := hide (And.intro hik (half_lt hik hlt))
      clear hat hlk hik
      go_upto_region 6 with (fail)
      go_region_held3 (fun w' => w'.cell? ⟨bT, oT + i, none⟩ = some (.int .i64 x) ∧ w'.cell? ⟨bT, oT + (i + 1), none⟩ = some (.int .i64 y)) (first | go_keep | exact ⟨(Ext.alloc _ _).cell a0, (Ext.alloc _ _).cell a1⟩ | exact ⟨E7.cell c0, E7.cell c1⟩) (first
        | ((refine step_append_at rfl (.tmp 15) (.tmp 26) 69 rfl w1.heap.size 119 i0_ _ 16 Try.underlying69 hi0 hz0 hz1 hz2 rfl (by omega) len_e2 one_e2 _ _ (by simp [Act.eval]) (HO.out.ext (Ext.trans (Ext.drew _) (Ext.alloc _ _))) (some ⟨wr.drew.heap.size, 0, none⟩) 1 1 [(x, y)] (by simp [Act.eval]) (At.pair1 wr.drew x y _) S1.out S2.out S3.out ?_); intro v7 w7 o7 g7 _ _; have O7 := hide o7; have E7 : Ext w1 w7 := Own.below (HO.out.ext (Ext.trans (Ext.drew _) (Ext.alloc _ _))) (Ext.trans HX.out (Ext.trans (Ext.drew _) (Ext.alloc _ _))) g7 (Nat.le_refl _); clear o7 g7))
      all_goals go_wp2_with fail
      exact ⟨⟨k + 1, i + 2, by have := HK.out.1; omega, HK.out.2, by go_num, hide (by rw [HSU.out]; exact O7.out), hide E7⟩, by simp [intOf]; omega⟩
    · have hk2 : k = N / 2 := by omega
      have i1 : ¬ (i : Int) + 1 < (N : Int) := by omega
      have HE : Hid (prL l = prK l k) := hide (by unfold prL; rw [HNL.out, hk2])
      have HKK := hide hk2
      clear hk2
      obtain ⟨vA, vc, hv, hat⟩ := HO.out.at_ len_e2
      have HAT := hide hat
      have HLT := HO.out.lt
      subst hv
      clear hlt hat
      go_wp2_with fail
      go_ret
      rw [HE.out]
      exact ⟨_, _, _, rfl, HAT.out, B1.out.ext HX.out, T1.out.trans (Tw.of_ext HX.out _ _), fun a ha => by subst ha; have := (HLT a.block rfl).1; omega⟩
def valsR (l : List (Int × Int)) : List Int := l.flatMap fun r => List.replicate r.1.toNat r.2
theorem valsR_take {l : List (Int × Int)} {k : Nat} (h : k < l.length) : valsR (l.take (k + 1)) = valsR (l.take k) ++ List.replicate (l.getD k (0, 0)).1.toNat (l.getD k (0, 0)).2 := by
  unfold valsR; rw [getD_take l k (0, 0) h, List.flatMap_append]; simp
end Go.Proofs.Ytlonhkjplijlcaa
namespace Go.Proofs.Ytlonhkjplijlcaa
def smOK (l : List (Int × Int)) (c : Int) : Nat → Int
  | 0 => 0
  | k + 1 => if (l.getD k (0, 0)).1 ≤ c then (l.getD k (0, 0)).2 else smOK l c k
def smO (l : List (Int × Int)) (c : Int) : Int := smOK l c l.length
def allS (l : List (Int × Int)) : Nat → Int
  | 0 => 0
  | i + 1 => allS l i + smO l ((i : Int) + 1)
theorem smOK_bd {l : List (Int × Int)} (h : firstF (chEl l) l.length = 0) (c : Int) : ∀ k, k ≤ l.length → 0 ≤ smOK l c k ∧ smOK l c k ≤ 1000
  | 0, _ => by simp [smOK]
  | k + 1, hk => by
    have ih := smOK_bd h c k (by omega)
    have := (ch_ok h k (by omega)).1
    rw [smOK]; split <;> omega
theorem smO_bd {l : List (Int × Int)} (h : firstF (chEl l) l.length = 0) (c : Int) : 0 ≤ smO l c ∧ smO l c ≤ 1000 := smOK_bd h c _ (Nat.le_refl _)
theorem ch_mono {l : List (Int × Int)} (h : firstF (chEl l) l.length = 0) {i : Nat} : ∀ j, i < j → j < l.length → (l.getD i (0, 0)).1 < (l.getD j (0, 0)).1
  | 0, hij, _ => absurd hij (Nat.not_lt_zero _)
  | j + 1, hij, hj => by
    have h1 := (ch_ok h (j + 1) hj).2.2 (by omega)
    rw [show j + 1 - 1 = j by omega] at h1
    rcases Nat.lt_succ_iff_lt_or_eq.1 hij with h2 | h2
    · have := ch_mono h j h2 (by omega); omega
    · rw [h2]; exact h1
theorem smO_at {l : List (Int × Int)} (h : firstF (chEl l) l.length = 0) {k : Nat} (hk : k < l.length) {c : Int} (h1 : (l.getD k (0, 0)).1 ≤ c) (h2 : k + 1 < l.length → c < (l.getD (k + 1) (0, 0)).1) : smO l c = (l.getD k (0, 0)).2 := by
  have key : ∀ m, k < m → m ≤ l.length → smOK l c m = (l.getD k (0, 0)).2 := by
    intro m
    induction m with
    | zero => intro h3; omega
    | succ m ih =>
      intro h3 h4
      rcases Nat.lt_succ_iff_lt_or_eq.1 h3 with h5 | h5
      · have h6 := h2 (by omega)
        have h7 : ¬ (l.getD m (0, 0)).1 ≤ c := by
          rcases Nat.lt_or_ge (k + 1) m with h8 | h8
          · have := ch_mono h m h8 (by omega); omega
          · rw [show m = k + 1 by omega]; omega
        rw [smOK, if_neg h7]
        exact ih h5 (by omega)
      · subst h5
        rw [smOK, if_pos h1]
  exact key _ hk (Nat.le_refl _)
theorem allS_run {l : List (Int × Int)} {v : Int} (a : Nat) : ∀ m : Nat, (∀ c : Nat, a < c → c ≤ a + m → smO l (c : Int) = v) → allS l (a + m) = allS l a + (m : Int) * v
  | 0, _ => by simp
  | m + 1, h => by
    have ih := allS_run a m (fun c h1 h2 => h c h1 (by omega))
    have h1 := h (a + m + 1) (by omega) (by omega)
    rw [show a + (m + 1) = a + m + 1 by omega, allS, ih, show ((a + m : Nat) : Int) + 1 = ((a + m + 1 : Nat) : Int) by push_cast; rfl, h1]
    push_cast
    rw [Int.add_mul]; omega
theorem allS_first {l : List (Int × Int)} {p : Nat} (h : firstF (chEl l) l.length = 0) (hf : ¬ chForm l p) : ∀ k, k < l.length → allS l ((l.getD k (0, 0)).1 - 1).toNat = chSum l p k
  | 0, hk => by
    have := (ch_ok h 0 hk).2.1 rfl
    rw [this]; rfl
  | k + 1, hk => by
    have ih := allS_first h hf k (by omega)
    have h1 := (ch_ok h k (by omega)).1
    have h2 := ch_mono h (k + 1) (Nat.lt_succ_self k) hk
    have h3 := allS_run (l := l) (v := (l.getD k (0, 0)).2) ((l.getD k (0, 0)).1 - 1).toNat ((l.getD (k + 1) (0, 0)).1 - (l.getD k (0, 0)).1).toNat (fun c h4 h5 => smO_at h (by omega) (by omega) (fun _ => by omega))
    rw [show ((l.getD k (0, 0)).1 - 1).toNat + ((l.getD (k + 1) (0, 0)).1 - (l.getD k (0, 0)).1).toNat = ((l.getD (k + 1) (0, 0)).1 - 1).toNat by omega, ih] at h3
    rw [h3, chSum]
    have h8 : nextC l p k = (l.getD (k + 1) (0, 0)).1 := by unfold nextC; rw [if_pos hk]
    rw [h8, show ((((l.getD (k + 1) (0, 0)).1 - (l.getD k (0, 0)).1).toNat : Nat) : Int) = (l.getD (k + 1) (0, 0)).1 - (l.getD k (0, 0)).1 by omega]
theorem allS_sum {l : List (Int × Int)} {p : Nat} (h : firstF (chEl l) l.length = 0) (hf : ¬ chForm l p) : allS l p = chSum l p l.length := by
  rcases Nat.eq_zero_or_pos l.length with h0 | h0
  · have hp : p = 0 := by
      rcases Nat.eq_zero_or_pos p with h1 | h1
      · exact h1
      · exact absurd (.inl ⟨h1, h0⟩) hf
    subst hp; rw [h0]; rfl
  · obtain ⟨k, hk⟩ : ∃ k, l.length = k + 1 := ⟨l.length - 1, by omega⟩
    have h1 := allS_first h hf k (by omega)
    have h2 := (ch_ok h k (by omega)).1
    have h3 : ¬ ((p : Int) < (l.getD k (0, 0)).1) := fun hc => hf (.inr ⟨by omega, by rw [show l.length - 1 = k by omega]; exact hc⟩)
    have h4 := allS_run (l := l) (v := (l.getD k (0, 0)).2) ((l.getD k (0, 0)).1 - 1).toNat (p + 1 - (l.getD k (0, 0)).1.toNat) (fun c h5 h6 => smO_at h (by omega) (by omega) (fun _ => by omega))
    rw [show ((l.getD k (0, 0)).1 - 1).toNat + (p + 1 - (l.getD k (0, 0)).1.toNat) = p by omega, h1] at h4
    rw [h4, hk, chSum]
    have h8 : nextC l p k = (p : Int) + 1 := by unfold nextC; rw [if_neg (by omega)]
    rw [h8, show ((p + 1 - (l.getD k (0, 0)).1.toNat : Nat) : Int) = (p : Int) + 1 - (l.getD k (0, 0)).1 by omega]
structure TabR1 (t : Tab) : Prop where
  start : noT t.start = false
  steps : runsF 0 t.steps = 0
  few : cntA t.steps ≤ 5000
  shifts : runsF (-1000000000) t.shifts = 0
  same : cntA t.shifts = cntA t.steps
  sz : ¬ szBad (cntA t.steps) t.sizes.length
  sizes : firstF (szEl t.sizes) t.sizes.length = 0
  keys : firstF (kyEl (cntA t.steps) t.keys) t.keys.length = 0
  chunks : firstF (chEl t.chunks) t.chunks.length = 0
  form : ¬ chForm t.chunks t.places.length
  sum : chSum t.chunks t.places.length t.chunks.length = cntA t.steps
  places : firstF (plEl t.places) t.places.length = 0
  ends : noT (endI t.start t.steps t.steps.length) = false
theorem tab_right {t : Tab} (h : tabF t = 0) : TabR1 t := by
  have h1 : noT t.start = false := by
    cases hc : noT t.start with
    | false => rfl
    | true => rw [tabF_start hc] at h; omega
  have h2 : runsF 0 t.steps = 0 := Classical.byContradiction fun hc => by rw [tabF_steps h1 hc] at h; exact hc h
  have h3 : ¬ 5000 < cntA t.steps := fun hc => by rw [tabF_large h1 h2 hc] at h; omega
  have h4 : runsF (-1000000000) t.shifts = 0 := Classical.byContradiction fun hc => by rw [tabF_shifts h1 h2 h3 hc] at h; exact hc h
  rw [tabF_two h1 h2 h3 h4] at h
  have h5 : ¬ (cntA t.shifts ≠ cntA t.steps ∨ szBad (cntA t.steps) t.sizes.length) := fun hc => by rw [tabF2_form hc] at h; omega
  have h6 : firstF (szEl t.sizes) t.sizes.length = 0 := Classical.byContradiction fun hc => by rw [tabF2_sizes h5 hc] at h; exact hc h
  have h7 : firstF (kyEl (cntA t.steps) t.keys) t.keys.length = 0 := Classical.byContradiction fun hc => by rw [tabF2_keys h5 h6 hc] at h; exact hc h
  rw [tabF2_three h5 h6 h7] at h
  unfold tabF3 at h
  have h8 : chunksF (cntA t.steps) t.chunks t.places = 0 := Classical.byContradiction fun hc => by rw [if_pos hc] at h; exact hc h
  rw [if_neg (by omega)] at h
  have h9 : noT (endI t.start t.steps t.steps.length) = false := by
    cases hc : noT (endI t.start t.steps t.steps.length) with
    | false => rfl
    | true => rw [hc, if_pos rfl] at h; omega
  unfold chunksF at h8
  have g1 : firstF (chEl t.chunks) t.chunks.length = 0 := Classical.byContradiction fun hc => by rw [if_pos hc] at h8; exact hc h8
  rw [if_neg (by omega)] at h8
  have g2 : ¬ chForm t.chunks t.places.length := fun hc => by rw [if_pos hc] at h8; omega
  rw [if_neg g2] at h8
  have g3 : chSum t.chunks t.places.length t.chunks.length = cntA t.steps := Classical.byContradiction fun hc => by rw [if_pos hc] at h8; omega
  rw [if_neg (by omega)] at h8
  exact ⟨h1, h2, by omega, h4, by omega, fun hc => h5 (.inr hc), h6, h7, g1, g2, g3, h8, h9⟩
theorem key_at {n : Int} {l : List Int} (h : firstF (kyEl n l) l.length = 0) {i : Nat} (hi : i < l.length) : 1 ≤ l.getD i 0 ∧ l.getD i 0 ≤ n ∧ (0 < i → l.getD (i - 1) 0 < l.getD i 0) := by
  have := firstF_all h i hi
  unfold kyEl at this
  by_cases h1 : l.getD i 0 < 1 ∨ n < l.getD i 0
  · rw [if_pos h1] at this; omega
  · rw [if_neg h1] at this
    by_cases h2 : 0 < i ∧ l.getD i 0 ≤ l.getD (i - 1) 0
    · rw [if_pos h2] at this; omega
    · exact ⟨by omega, by omega, fun h3 => by omega⟩
theorem key_asc {n : Int} {l : List Int} (h : firstF (kyEl n l) l.length = 0) : ∀ i, i < l.length → (i : Int) + 1 ≤ l.getD i 0
  | 0, hi => by have := (key_at h hi).1; omega
  | i + 1, hi => by
    have ih := key_asc h i (by omega)
    have := (key_at h hi).2.2 (by omega)
    rw [show i + 1 - 1 = i by omega] at this
    omega
theorem smO_pos {l : List (Int × Int)} (h : firstF (chEl l) l.length = 0) (h0 : 0 < l.length) {c : Int} (hc : 1 ≤ c) : 1 ≤ smO l c := by
  have key : ∀ k, 0 < k → k ≤ l.length → 1 ≤ smOK l c k := by
    intro k
    induction k with
    | zero => intro h1; omega
    | succ k ih =>
      intro _ h2
      have h3 := ch_ok h k (by omega)
      rw [smOK]
      split
      · exact h3.1.2.2.1
      · rename_i h4
        rcases Nat.eq_zero_or_pos k with h5 | h5
        · have := h3.2.1 h5; omega
        · exact ih h5 (by omega)
  exact key _ h0 (Nat.le_refl _)
theorem allS_ge {l : List (Int × Int)} (h : firstF (chEl l) l.length = 0) (h0 : 0 < l.length) : ∀ i : Nat, (i : Int) ≤ allS l i
  | 0 => by simp [allS]
  | i + 1 => by
    have ih := allS_ge h h0 i
    have := smO_pos h h0 (c := (i : Int) + 1) (by omega)
    rw [allS]; omega
theorem tab_few {t : Tab} (h : TabR1 t) : t.steps.length ≤ 5000 ∧ t.shifts.length ≤ 5000 ∧ t.sizes.length ≤ 5000 ∧ t.keys.length ≤ 5000 ∧ t.chunks.length ≤ 5000 ∧ t.places.length ≤ 5000 := by
  have hf := h.few
  have h1 : (t.steps.length : Int) ≤ cntA t.steps := (cntI_bd h.steps _ (Nat.le_refl _)).1
  have h2 : (t.shifts.length : Int) ≤ cntA t.shifts := (cntI_bd h.shifts _ (Nat.le_refl _)).1
  have hs := h.same
  refine ⟨by omega, by omega, ?_, ?_, ch_len h.chunks, ?_⟩
  · have := h.sz
    unfold szBad at this
    omega
  · rcases Nat.eq_zero_or_pos t.keys.length with h0 | h0
    · omega
    · have h3 := key_asc h.keys (t.keys.length - 1) (by omega)
      have h4 := (key_at h.keys (i := t.keys.length - 1) (by omega)).2.1
      omega
  · rcases Nat.eq_zero_or_pos t.places.length with h0 | h0
    · omega
    · have h3 : 0 < t.chunks.length := Nat.pos_of_ne_zero fun hc => h.form (.inl ⟨h0, hc⟩)
      have h4 := allS_ge h.chunks h3 t.places.length
      have h5 := allS_sum h.chunks h.form
      have h6 := h.sum
      omega
def mapR {α : Type} (n : Nat) (f : Nat → α) : List α := (List.range n).map f
theorem mapR_len {α : Type} (n : Nat) (f : Nat → α) : (mapR n f).length = n := by simp [mapR]
theorem mapR_getD {α : Type} {n k : Nat} (f : Nat → α) (d : α) (h : k < n) : (mapR n f).getD k d = f k := by simp [mapR, List.getD, h]
theorem mapR_succ {α : Type} (n : Nat) (f : Nat → α) : mapR (n + 1) f = mapR n f ++ [f n] := by simp [mapR, List.range_succ]
theorem mapR_congr {α : Type} {n : Nat} {f g : Nat → α} (h : ∀ i, i < n → f i = g i) : mapR n f = mapR n g := by
  unfold mapR; exact List.map_congr_left (fun i hi => h i (List.mem_range.1 hi))
theorem mapR_set {α : Type} {n k : Nat} (f : Nat → α) (x : α) : (mapR n f).set k x = mapR n (fun i => if i = k then x else f i) := by
  apply List.ext_getElem (by simp [mapR])
  intro i h1 h2
  rw [List.getElem_set]
  by_cases h : k = i
  · subst h; simp [mapR]
  · rw [if_neg h]; simp only [mapR, List.getElem_map, List.getElem_range]; rw [if_neg (fun e => h e.symm)]
theorem valsR_len {least : Int} {l : List (Int × Int)} (h : runsF least l = 0) : ∀ k, k ≤ l.length → ((valsR (l.take k)).length : Int) = cntI l k
  | 0, _ => by simp [valsR, cntI]
  | k + 1, hk => by
    have ih := valsR_len h k (by omega)
    have h1 := runs_ok h k (by omega)
    rw [valsR_take (by omega), List.length_append, List.length_replicate, cntI]
    omega
theorem valsR_all {least : Int} {l : List (Int × Int)} (h : runsF least l = 0) : ((valsR l).length : Int) = cntA l := by
  have := valsR_len h l.length (Nat.le_refl _)
  rwa [List.take_length] at this
theorem valsR_split (l : List (Int × Int)) (k : Nat) : valsR l = valsR (l.take k) ++ valsR (l.drop k) := by
  unfold valsR; rw [← List.flatMap_append, List.take_append_drop]
theorem valsR_at {l : List (Int × Int)} {k j : Nat} (hk : k < l.length) (hj : (j : Int) < (l.getD k (0, 0)).1) : (valsR l).getD ((valsR (l.take k)).length + j) 0 = (l.getD k (0, 0)).2 ∧ (valsR (l.take k)).length + j < (valsR l).length := by
  have h1 := valsR_split l (k + 1)
  rw [valsR_take hk] at h1
  rw [h1]
  constructor
  · rw [List.getD_eq_getElem?_getD, List.append_assoc, List.getElem?_append_right (by omega), Nat.add_sub_cancel_left, List.getElem?_append_left (by rw [List.length_replicate]; omega), List.getElem?_replicate, if_pos (by omega)]
    rfl
  · rw [List.length_append, List.length_append, List.length_replicate]; omega
theorem valsR_bd {least : Int} {l : List (Int × Int)} (h : runsF least l = 0) (h0 : least ≤ 0) (i : Nat) : least ≤ (valsR l).getD i 0 ∧ (valsR l).getD i 0 ≤ 1000000000 := by
  by_cases hi : i < (valsR l).length
  · have hm : (valsR l).getD i 0 ∈ valsR l := by
      rw [List.getD_eq_getElem?_getD, List.getElem?_eq_getElem hi]; exact List.getElem_mem hi
    unfold valsR at hm
    obtain ⟨r, hr, hx⟩ := List.mem_flatMap.1 hm
    obtain ⟨k, hk, he⟩ := List.getElem_of_mem hr
    have h2 := runs_ok h k hk
    have h3 : l.getD k (0, 0) = r := by rw [List.getD_eq_getElem?_getD, List.getElem?_eq_getElem hk]; exact he
    rw [h3] at h2
    have h4 : (valsR l).getD i 0 = r.2 := (List.mem_replicate.1 hx).2
    rw [h4]; omega
  · rw [List.getD_eq_getElem?_getD, List.getElem?_eq_none (by omega)]
    show least ≤ 0 ∧ (0 : Int) ≤ _
    omega
def exT (t : Tab) : Nat → Int
  | 0 => t.start
  | i + 1 => exT t i + (valsR t.steps).getD i 0
theorem exT_bd {t : Tab} (h : runsF 0 t.steps = 0) : ∀ i : Nat, t.start ≤ exT t i ∧ exT t i ≤ t.start + 1000000000 * (i : Int)
  | 0 => by simp [exT]
  | i + 1 => by
    have ih := exT_bd h i
    have := valsR_bd h (Int.le_refl _) i
    rw [exT]; omega
def exSz (t : Tab) (i : Nat) : Int := t.sizes.getD (min i (t.sizes.length - 1)) 0
theorem exSz_bd {t : Tab} (h : firstF (szEl t.sizes) t.sizes.length = 0) (i : Nat) : 0 ≤ exSz t i ∧ exSz t i ≤ 100000 := by
  unfold exSz
  generalize min i (t.sizes.length - 1) = k
  by_cases hk : k < t.sizes.length
  · have := firstF_all h k hk
    unfold szEl at this
    by_cases h1 : t.sizes.getD k 0 < 0 ∨ 100000 < t.sizes.getD k 0
    · rw [if_pos h1] at this; omega
    · omega
  · rw [List.getD_eq_getElem?_getD, List.getElem?_eq_none (by omega)]
    show (0 : Int) ≤ 0 ∧ (0 : Int) ≤ _
    omega
def exSt (t : Tab) (i : Nat) : Int := (valsR t.steps).getD i 0
def exSh (t : Tab) (i : Nat) : Int := (valsR t.shifts).getD i 0
def exKy (t : Tab) (k i : Nat) : Bool := t.nok || (t.keys.take k).contains ((i : Int) + 1)
def exM (t : Tab) (p q k i : Nat) : Smp := ⟨exT t i, exSt t i, if i < p then exSh t i else 0, if i < q then exSz t i else 0, exKy t k i⟩
def exN (t : Tab) : Nat := (valsR t.steps).length
def exS (t : Tab) : List Smp := mapR (exN t) (exM t (exN t) (exN t) t.keys.length)
theorem exS_at {t : Tab} {i : Nat} (h : i < exN t) : (exS t).getD i dS = ⟨exT t i, exSt t i, exSh t i, exSz t i, exKy t t.keys.length i⟩ := by
  unfold exS; rw [mapR_getD _ _ h]; unfold exM; rw [if_pos h, if_pos h]
theorem exM_zero (t : Tab) (i : Nat) : exM t 0 0 0 i = ⟨exT t i, exSt t i, 0, 0, t.nok⟩ := by
  unfold exM exKy; simp
theorem exM_shift {t : Tab} {n p : Nat} (_hp : p < n) : (mapR n (exM t p 0 0)).set p { exM t p 0 0 p with shift := exSh t p } = mapR n (exM t (p + 1) 0 0) := by
  rw [mapR_set]
  apply mapR_congr
  intro i _
  by_cases h : i = p
  · subst h; rw [if_pos rfl]; unfold exM; simp
  · rw [if_neg h]; unfold exM
    by_cases h2 : i < p
    · simp only [if_pos h2, if_pos (show i < p + 1 by omega)]
    · simp only [if_neg h2, if_neg (show ¬ i < p + 1 by omega)]
theorem exM_size {t : Tab} {n q : Nat} (_hq : q < n) : (mapR n (exM t n q 0)).set q { exM t n q 0 q with size := exSz t q } = mapR n (exM t n (q + 1) 0) := by
  rw [mapR_set]
  apply mapR_congr
  intro i _
  by_cases h : i = q
  · subst h; rw [if_pos rfl]; unfold exM; simp
  · rw [if_neg h]; unfold exM
    by_cases h2 : i < q
    · simp only [if_pos h2, if_pos (show i < q + 1 by omega)]
    · simp only [if_neg h2, if_neg (show ¬ i < q + 1 by omega)]
theorem exKy_succ {t : Tab} {k i : Nat} (hk : k < t.keys.length) : exKy t (k + 1) i = (exKy t k i || decide (t.keys.getD k 0 = (i : Int) + 1)) := by
  unfold exKy
  rw [getD_take t.keys k 0 hk, List.contains_append, ← Bool.or_assoc]
  congr 1
  simp only [List.contains_cons, List.contains_nil, Bool.or_false]
  by_cases h : t.keys.getD k 0 = (i : Int) + 1
  · rw [h]; simp
  · rw [decide_eq_false h, beq_eq_false_iff_ne]; exact fun e => h e.symm
theorem exM_key {t : Tab} {n k m : Nat} (hk : k < t.keys.length) (hm : t.keys.getD k 0 = (m : Int) + 1) : (mapR n (exM t n n k)).set m { exM t n n k m with key := true } = mapR n (exM t n n (k + 1)) := by
  rw [mapR_set]
  apply mapR_congr
  intro i _
  by_cases h : i = m
  · subst h; rw [if_pos rfl]; unfold exM; rw [exKy_succ hk, hm]; simp
  · rw [if_neg h]; unfold exM; rw [exKy_succ hk, hm]
    have : decide ((m : Int) + 1 = (i : Int) + 1) = false := decide_eq_false (by omega)
    rw [this, Bool.or_false]
def szP (t : Tab) : Nat → Int
  | 0 => 0
  | i + 1 => szP t i + exSz t i
theorem szP_bd {t : Tab} (h : firstF (szEl t.sizes) t.sizes.length = 0) (s : Nat) : ∀ j : Nat, 0 ≤ szP t (s + j) - szP t s ∧ szP t (s + j) - szP t s ≤ 100000 * (j : Int)
  | 0 => by simp
  | j + 1 => by
    have ih := szP_bd h s j
    have := exSz_bd h (s + j)
    rw [show s + (j + 1) = s + j + 1 by omega, szP]; omega
def spI (t : Tab) (p : Int) (s : Nat) : Nat → List (Int × Int)
  | 0 => []
  | j + 1 => spI t p s j ++ [(p + (szP t (s + j) - szP t s), exSz t (s + j))]
theorem spI_len (t : Tab) (p : Int) (s : Nat) : ∀ j, (spI t p s j).length = j
  | 0 => rfl
  | j + 1 => by rw [spI, List.length_append, spI_len t p s j]; rfl
def spC (t : Tab) : Nat → List (Int × Int)
  | 0 => []
  | c + 1 => spC t c ++ spI t (t.places.getD c 0) (spC t c).length (smO t.chunks ((c : Int) + 1)).toNat
theorem spC_len {t : Tab} (h : firstF (chEl t.chunks) t.chunks.length = 0) : ∀ c, ((spC t c).length : Int) = allS t.chunks c
  | 0 => rfl
  | c + 1 => by
    have ih := spC_len h c
    have := smO_bd h ((c : Int) + 1)
    rw [spC, List.length_append, spI_len, allS]; omega
theorem allS_mono {l : List (Int × Int)} (h : firstF (chEl l) l.length = 0) (a : Nat) : ∀ m : Nat, allS l a ≤ allS l (a + m)
  | 0 => Int.le_refl _
  | m + 1 => by
    have ih := allS_mono h a m
    have := smO_bd h (((a + m : Nat) : Int) + 1)
    rw [show a + (m + 1) = a + m + 1 by omega, allS]; omega
def bigS (s : Int × Int) : Bool := decide (1000000 < s.1 + s.2)
theorem any_none {l : List (Int × Int)} (h : ∀ i, i < l.length → bigS (l.getD i (0, 0)) = false) : l.any bigS = false := by
  rw [List.any_eq_false]
  intro x hx
  obtain ⟨k, hk, he⟩ := List.getElem_of_mem hx
  have := h k hk
  rw [List.getD_eq_getElem?_getD, List.getElem?_eq_getElem hk] at this
  rw [← he]
  simpa using this
theorem any_some {l : List (Int × Int)} {i : Nat} (hi : i < l.length) (h : bigS (l.getD i (0, 0)) = true) : l.any bigS = true := by
  rw [List.any_eq_true]
  refine ⟨l[i], List.getElem_mem hi, ?_⟩
  rwa [List.getD_eq_getElem?_getD, List.getElem?_eq_getElem hi] at h
def spS (t : Tab) : List (Int × Int) := spC t t.places.length
def expF (t : Tab) : Int := if tabF t ≠ 0 then tabF t else if (spS t).any bigS = true then 1 else 0
theorem exN_eq {t : Tab} (h : TabR1 t) : ((exN t : Nat) : Int) = cntA t.steps := valsR_all h.steps
theorem exSh_len {t : Tab} (h : TabR1 t) : (valsR t.shifts).length = exN t := by
  have h1 := valsR_all h.shifts
  have h2 := exN_eq h
  have h3 := h.same
  omega
theorem spS_len {t : Tab} (h : TabR1 t) : (spS t).length = exN t := by
  have h1 := spC_len h.chunks t.places.length
  rw [allS_sum h.chunks h.form, h.sum, ← exN_eq h] at h1
  unfold spS; omega
theorem sp_lt {t : Tab} (h : TabR1 t) {c j : Nat} (hc : c < t.places.length) (hj : (j : Int) < smO t.chunks ((c : Int) + 1)) : (spC t c).length + j < exN t := by
  have h1 := spC_len h.chunks c
  have h2 := allS_mono h.chunks (c + 1) (t.places.length - (c + 1))
  rw [show c + 1 + (t.places.length - (c + 1)) = t.places.length by omega, allS_sum h.chunks h.form, h.sum, ← exN_eq h, allS] at h2
  omega
theorem sz_many {t : Tab} (h : TabR1 t) {i : Nat} (hi : i < exN t) : t.sizes.length = 1 ∨ t.sizes.length = exN t := by
  have h1 := h.sz
  have h2 := exN_eq h
  unfold szBad at h1
  omega
end Go.Proofs.Ytlonhkjplijlcaa
