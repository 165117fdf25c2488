/- Walks: Needed (both). Conditions: none. -/
import Derived.Test.YtifmgngmkajahaaRotA
namespace Go.Proofs.Ytifmgngmkajahaa
open Go.RowKit

theorem Try.info3 : (Try.prog.info? 3).map (fun i => (i.zero, i.size, i.bytes)) = some (some (.int .i64 0), 1, 8) := by kernel_rfl
theorem len_e64 (x : Int) : (e64 x).length = 1 := rfl
theorem one_e64 (x : Int) : ∀ u ∈ e64 x, u.oneCell' = true := by intro u hu; simp at hu; subst hu; rfl
theorem At.one64 (w : World) (x : Int) : At (w.alloc (.cells #[.int .i64 x] 3)) 1 e64 (some ⟨w.heap.size, 0, none⟩) 1 1 [x] :=
  ⟨rfl, Nat.le_refl _, by unfold maxLen; omega, fun h => (by cases h), fun k y hy => ⟨_, _, rfl, fun j u hu => by
    match k, hy with
    | 0, hy =>
      simp at hy; subst hy
      match j, hu with
      | 0, hu =>
        simp at hu; subst hu
        exact (Blk.new w _ _).cell 0
      | j + 1, hu => simp at hu
    | k + 1, hy => simp at hy⟩⟩
/-- So many numbers from one on. -/
def spanL (f : Int) (k : Nat) : List Int := (List.range k).map fun (j : Nat) => f + (j : Int)
theorem spanL_succ (f : Int) (k : Nat) : spanL f k ++ [f + (k : Int)] = spanL f (k + 1) := by simp [spanL, List.range_succ]
theorem length_spanL (f : Int) (k : Nat) : (spanL f k).length = k := by simp [spanL]
def firstP (B E F : Int) : Int := (if F ≤ B then 0 else F - B) / E
def lastP (B E L T : Int) : Int := (T + L - 1 - B) / E
def needF (B E L : Int) (n : Nat) (F T : Int) : Int :=
  if rotF B E L n ≠ 0 then rotF B E L n else if F < 0 ∨ 1000000000000000 < F ∨ T < 0 ∨ 1000000000000000 < T then 1 else if T ≤ F then 8
  else if T + L ≤ B then 0 else if 1000 ≤ lastP B E L T - firstP B E F ∨ 1000000000 < lastP B E L T then 2 else 0
def needL (B E L : Int) (n : Nat) (F T : Int) : List Int :=
  if needF B E L n F T ≠ 0 ∨ T + L ≤ B then [] else spanL (firstP B E F) (lastP B E L T - firstP B E F + 1).toNat
/-- A slice of numbers and a fault. -/
def GivesL (w : World) (l : List Int) (f : Int) (e : Ending) (w' : World) : Prop := ∃ A k c, e = .returned (.tuple #[.slice A k c, .int .i64 f]) ∧ At w' 1 e64 A k c l ∧ Ext w w'
theorem givesL_nil {w w' : World} (f : Int) (h : Ext w w') : GivesL w [] f (.returned (.tuple #[.slice none 0 0, .int .i64 f])) w' := ⟨none, 0, 0, rfl, At.nil _ _ _, h⟩
theorem first_le {B E L F T : Int} (hE : 1 ≤ E) (h1 : F < T) (h2 : B < T + L) (hL : 0 ≤ L) : firstP B E F ≤ lastP B E L T := by
  unfold firstP lastP
  apply Int.ediv_le_ediv (by omega)
  split <;> omega
theorem firstP_bd {B E F : Int} (hE : 1 ≤ E) (hB : 0 ≤ B) (hF : F ≤ 1000000000000000) : 0 ≤ firstP B E F ∧ firstP B E F ≤ 1000000000000000 := by
  unfold firstP
  have h0 : 0 ≤ (if F ≤ B then 0 else F - B) := by split <;> omega
  have h1 : (if F ≤ B then 0 else F - B) ≤ 1000000000000000 := by split <;> omega
  exact ⟨Int.ediv_nonneg h0 (by omega), Int.le_trans (Int.ediv_le_self _ h0) h1⟩
theorem lastP_bd {B E L T : Int} (hE : 1 ≤ E) (hB : 0 ≤ B) (h2 : B < T + L) (hT : T + L ≤ 2000000000000000) : 0 ≤ lastP B E L T ∧ lastP B E L T ≤ 2000000000000000 := by
  unfold lastP
  exact ⟨Int.ediv_nonneg (by omega) (by omega), Int.le_trans (Int.ediv_le_self _ (by omega)) (by omega)⟩
theorem w64 {x : Int} (h0 : 0 ≤ x) (h1 : x ≤ 2000000000000001) : wrap64 x = x := by unfold wrap64; omega
/-- A span by value. -/
abbrev spanV (F T : Int) : Value := .agg #[.int .i64 F, .int .i64 T]

set_option maxRecDepth 100000 in
set_option maxHeartbeats 4000000 in
theorem keyNeeded_any (B E L : Int) (A : Option Addr) (n c : Nat) (F T : Int) (w : World) :
    Calls Try.prog 28 #[rotV B E L A n c, spanV F T] w (GivesL w (needL B E L n F T) (needF B E L n F T)) := by
  unfold needL
  by_cases hr : rotF B E L n = 0
  rotate_left
  · have hf : needF B E L n F T = rotF B E L n := by unfold needF; rw [if_pos hr]
    rw [hf, if_pos (.inl hr)]
    have hr' : (rotF B E L n != 0) = true := by rw [bne_iff_ne]; exact hr
    have HC := hide (fun W : World => keyCheckRotation_any B E L A n c W)
    generalize rotF B E L n = r at *
    clear hr hf
    go_enter Try.func28, Try.ntmps28
    go_wp2_with (first | ((go_at_call 53; with_reducible refine (HC.out _).mono ?_); rintro e w1 ⟨rfl, e1⟩; skip) | ((go_at_call 87; with_reducible refine (out_no ?_ _).mono ?_); (focus omega); rintro e w' ⟨rfl, rfl⟩) | ((go_at_call 87; with_reducible refine (out_yes ?_ _).mono ?_); (focus omega); rintro e w' ⟨rfl, rfl⟩))
    go_ret2
    exact givesL_nil _ (Ext.trans (ext_alloc (Ext.alloc _ _) _) e1)
  obtain ⟨hB, hE, hL, hn⟩ := rotF_zero hr
  have hc := fun W : World => keyCheckRotation_any B E L A n c W
  rw [hr] at hc
  have HC := hide hc
  clear hc
  by_cases hFT : F < 0 ∨ 1000000000000000 < F ∨ T < 0 ∨ 1000000000000000 < T
  · have hf : needF B E L n F T = 1 := by unfold needF; rw [if_neg (by omega), if_pos hFT]
    rw [hf, if_pos (.inl (by decide))]
    clear hf hr
    by_cases hF : 0 ≤ F ∧ F ≤ 1000000000000000
    · go_enter Try.func28, Try.ntmps28
      go_wp2_with (first | ((go_at_call 53; with_reducible refine (HC.out _).mono ?_); rintro e w1 ⟨rfl, e1⟩; have z1 := e1.size; have c0 := e1.cell (((Blk.new w 31 #[.int .i64 B, .int .i64 E, .int .i64 L, .slice A n c]).alloc (.cells #[.int .i64 F, .int .i64 T] 33)).cell 0); have c1 := e1.cell (((Blk.new w 31 #[.int .i64 B, .int .i64 E, .int .i64 L, .slice A n c]).alloc (.cells #[.int .i64 F, .int .i64 T] 33)).cell 1); have c2 := e1.cell (((Blk.new w 31 #[.int .i64 B, .int .i64 E, .int .i64 L, .slice A n c]).alloc (.cells #[.int .i64 F, .int .i64 T] 33)).cell 2); have s0 := e1.cell ((Blk.new (w.alloc (.cells #[.int .i64 B, .int .i64 E, .int .i64 L, .slice A n c] 31)) 33 #[.int .i64 F, .int .i64 T]).cell 0); have s1 := e1.cell ((Blk.new (w.alloc (.cells #[.int .i64 B, .int .i64 E, .int .i64 L, .slice A n c] 31)) 33 #[.int .i64 F, .int .i64 T]).cell 1); rw [World.size_alloc] at s0 s1) | ((go_at_call 87; with_reducible refine (out_no ?_ _).mono ?_); (focus omega); rintro e w' ⟨rfl, rfl⟩) | ((go_at_call 87; with_reducible refine (out_yes ?_ _).mono ?_); (focus omega); rintro e w' ⟨rfl, rfl⟩))
      go_ret2
      exact givesL_nil _ (Ext.trans (ext_alloc (Ext.alloc _ _) _) e1)
    · go_enter Try.func28, Try.ntmps28
      go_wp2_with (first | ((go_at_call 53; with_reducible refine (HC.out _).mono ?_); rintro e w1 ⟨rfl, e1⟩; have z1 := e1.size; have c0 := e1.cell (((Blk.new w 31 #[.int .i64 B, .int .i64 E, .int .i64 L, .slice A n c]).alloc (.cells #[.int .i64 F, .int .i64 T] 33)).cell 0); have c1 := e1.cell (((Blk.new w 31 #[.int .i64 B, .int .i64 E, .int .i64 L, .slice A n c]).alloc (.cells #[.int .i64 F, .int .i64 T] 33)).cell 1); have c2 := e1.cell (((Blk.new w 31 #[.int .i64 B, .int .i64 E, .int .i64 L, .slice A n c]).alloc (.cells #[.int .i64 F, .int .i64 T] 33)).cell 2); have s0 := e1.cell ((Blk.new (w.alloc (.cells #[.int .i64 B, .int .i64 E, .int .i64 L, .slice A n c] 31)) 33 #[.int .i64 F, .int .i64 T]).cell 0); have s1 := e1.cell ((Blk.new (w.alloc (.cells #[.int .i64 B, .int .i64 E, .int .i64 L, .slice A n c] 31)) 33 #[.int .i64 F, .int .i64 T]).cell 1); rw [World.size_alloc] at s0 s1) | ((go_at_call 87; with_reducible refine (out_no ?_ _).mono ?_); (focus omega); rintro e w' ⟨rfl, rfl⟩) | ((go_at_call 87; with_reducible refine (out_yes ?_ _).mono ?_); (focus omega); rintro e w' ⟨rfl, rfl⟩))
      go_ret2
      exact givesL_nil _ (Ext.trans (ext_alloc (Ext.alloc _ _) _) e1)
  have hF : 0 ≤ F ∧ F ≤ 1000000000000000 := by omega
  have hT : 0 ≤ T ∧ T ≤ 1000000000000000 := by omega
  by_cases ho : T ≤ F
  · have hf : needF B E L n F T = 8 := by unfold needF; rw [if_neg (by omega), if_neg hFT, if_pos ho]
    rw [hf, if_pos (.inl (by decide))]
    clear hf hFT hr
    go_enter Try.func28, Try.ntmps28
    go_wp2_with (first | ((go_at_call 53; with_reducible refine (HC.out _).mono ?_); rintro e w1 ⟨rfl, e1⟩; have z1 := e1.size; have c0 := e1.cell (((Blk.new w 31 #[.int .i64 B, .int .i64 E, .int .i64 L, .slice A n c]).alloc (.cells #[.int .i64 F, .int .i64 T] 33)).cell 0); have c1 := e1.cell (((Blk.new w 31 #[.int .i64 B, .int .i64 E, .int .i64 L, .slice A n c]).alloc (.cells #[.int .i64 F, .int .i64 T] 33)).cell 1); have c2 := e1.cell (((Blk.new w 31 #[.int .i64 B, .int .i64 E, .int .i64 L, .slice A n c]).alloc (.cells #[.int .i64 F, .int .i64 T] 33)).cell 2); have s0 := e1.cell ((Blk.new (w.alloc (.cells #[.int .i64 B, .int .i64 E, .int .i64 L, .slice A n c] 31)) 33 #[.int .i64 F, .int .i64 T]).cell 0); have s1 := e1.cell ((Blk.new (w.alloc (.cells #[.int .i64 B, .int .i64 E, .int .i64 L, .slice A n c] 31)) 33 #[.int .i64 F, .int .i64 T]).cell 1); rw [World.size_alloc] at s0 s1) | ((go_at_call 87; with_reducible refine (out_no ?_ _).mono ?_); (focus omega); rintro e w' ⟨rfl, rfl⟩) | ((go_at_call 87; with_reducible refine (out_yes ?_ _).mono ?_); (focus omega); rintro e w' ⟨rfl, rfl⟩))
    go_ret2
    exact givesL_nil _ (Ext.trans (ext_alloc (Ext.alloc _ _) _) e1)
  by_cases hb : T + L ≤ B
  · have hf : needF B E L n F T = 0 := by unfold needF; rw [if_neg (by omega), if_neg hFT, if_neg ho, if_pos hb]
    rw [hf, if_pos (.inr hb)]
    clear hf hFT hr
    go_enter Try.func28, Try.ntmps28
    go_wp2_with (first | ((go_at_call 53; with_reducible refine (HC.out _).mono ?_); rintro e w1 ⟨rfl, e1⟩; have z1 := e1.size; have c0 := e1.cell (((Blk.new w 31 #[.int .i64 B, .int .i64 E, .int .i64 L, .slice A n c]).alloc (.cells #[.int .i64 F, .int .i64 T] 33)).cell 0); have c1 := e1.cell (((Blk.new w 31 #[.int .i64 B, .int .i64 E, .int .i64 L, .slice A n c]).alloc (.cells #[.int .i64 F, .int .i64 T] 33)).cell 1); have c2 := e1.cell (((Blk.new w 31 #[.int .i64 B, .int .i64 E, .int .i64 L, .slice A n c]).alloc (.cells #[.int .i64 F, .int .i64 T] 33)).cell 2); have s0 := e1.cell ((Blk.new (w.alloc (.cells #[.int .i64 B, .int .i64 E, .int .i64 L, .slice A n c] 31)) 33 #[.int .i64 F, .int .i64 T]).cell 0); have s1 := e1.cell ((Blk.new (w.alloc (.cells #[.int .i64 B, .int .i64 E, .int .i64 L, .slice A n c] 31)) 33 #[.int .i64 F, .int .i64 T]).cell 1); rw [World.size_alloc] at s0 s1) | ((go_at_call 87; with_reducible refine (out_no ?_ _).mono ?_); (focus omega); rintro e w' ⟨rfl, rfl⟩) | ((go_at_call 87; with_reducible refine (out_yes ?_ _).mono ?_); (focus omega); rintro e w' ⟨rfl, rfl⟩))
    go_ret2
    exact givesL_nil _ (Ext.trans (ext_alloc (Ext.alloc _ _) _) e1)
  have hfl := first_le (B := B) (E := E) (L := L) (F := F) (T := T) (by omega) (by omega) (by omega) (by omega)
  obtain ⟨hf0, hf1⟩ := firstP_bd (B := B) (E := E) (F := F) (by omega) (by omega) (by omega)
  obtain ⟨hl0, hl1⟩ := lastP_bd (B := B) (E := E) (L := L) (T := T) (by omega) (by omega) (by omega) (by omega)
  by_cases hg : 1000 ≤ lastP B E L T - firstP B E F ∨ 1000000000 < lastP B E L T
  · have hf : needF B E L n F T = 2 := by unfold needF; rw [if_neg (by omega), if_neg hFT, if_neg ho, if_neg hb, if_pos hg]
    rw [hf, if_pos (.inl (by decide))]
    clear hf hFT hr
    have e2 : (T + L - 1 - B) / E = lastP B E L T := rfl
    by_cases hFB : F ≤ B
    · rcases (show F < B ∨ F - B = 0 by omega) with hsub | hsub
      all_goals
        have hw64 : wrap64 (lastP B E L T) = lastP B E L T := w64 (by omega) (by omega)
        have hw65 : wrap64 (lastP B E L T + 1) = lastP B E L T + 1 := w64 (by omega) (by omega)
        have hw66 : wrap64 (wrap64 (lastP B E L T) + 1) = lastP B E L T + 1 := by rw [hw64, hw65]
        have e1 : firstP B E F = 0 := by unfold firstP; rw [if_pos hFB, Int.zero_ediv]
        rw [e1] at hfl hg hf0 hf1
        clear e1
        generalize lastP B E L T = la at *
        by_cases hg1 : 1000 ≤ la
        · clear hg
          go_enter Try.func28, Try.ntmps28
          go_wp2_with (first | ((go_at_call 53; with_reducible refine (HC.out _).mono ?_); rintro e w1 ⟨rfl, e1⟩; have z1 := e1.size; have c0 := e1.cell (((Blk.new w 31 #[.int .i64 B, .int .i64 E, .int .i64 L, .slice A n c]).alloc (.cells #[.int .i64 F, .int .i64 T] 33)).cell 0); have c1 := e1.cell (((Blk.new w 31 #[.int .i64 B, .int .i64 E, .int .i64 L, .slice A n c]).alloc (.cells #[.int .i64 F, .int .i64 T] 33)).cell 1); have c2 := e1.cell (((Blk.new w 31 #[.int .i64 B, .int .i64 E, .int .i64 L, .slice A n c]).alloc (.cells #[.int .i64 F, .int .i64 T] 33)).cell 2); have s0 := e1.cell ((Blk.new (w.alloc (.cells #[.int .i64 B, .int .i64 E, .int .i64 L, .slice A n c] 31)) 33 #[.int .i64 F, .int .i64 T]).cell 0); have s1 := e1.cell ((Blk.new (w.alloc (.cells #[.int .i64 B, .int .i64 E, .int .i64 L, .slice A n c] 31)) 33 #[.int .i64 F, .int .i64 T]).cell 1); rw [World.size_alloc] at s0 s1) | ((go_at_call 87; with_reducible refine (out_no ?_ _).mono ?_); (focus omega); rintro e w' ⟨rfl, rfl⟩) | ((go_at_call 87; with_reducible refine (out_yes ?_ _).mono ?_); (focus omega); rintro e w' ⟨rfl, rfl⟩))
          go_ret2
          exact givesL_nil _ (Ext.trans (ext_alloc (Ext.alloc _ _) _) e1)
        · exfalso; omega
    · have e1 : (F - B) / E = firstP B E F := by unfold firstP; rw [if_neg hFB]
      generalize firstP B E F = f at *
      generalize lastP B E L T = la at *
      have hFB' : B < F := by omega
      clear hFB
      by_cases hg1 : 1000 ≤ la - f
      · clear hg
        go_enter Try.func28, Try.ntmps28
        go_wp2_with (first | ((go_at_call 53; with_reducible refine (HC.out _).mono ?_); rintro e w1 ⟨rfl, e1⟩; have z1 := e1.size; have c0 := e1.cell (((Blk.new w 31 #[.int .i64 B, .int .i64 E, .int .i64 L, .slice A n c]).alloc (.cells #[.int .i64 F, .int .i64 T] 33)).cell 0); have c1 := e1.cell (((Blk.new w 31 #[.int .i64 B, .int .i64 E, .int .i64 L, .slice A n c]).alloc (.cells #[.int .i64 F, .int .i64 T] 33)).cell 1); have c2 := e1.cell (((Blk.new w 31 #[.int .i64 B, .int .i64 E, .int .i64 L, .slice A n c]).alloc (.cells #[.int .i64 F, .int .i64 T] 33)).cell 2); have s0 := e1.cell ((Blk.new (w.alloc (.cells #[.int .i64 B, .int .i64 E, .int .i64 L, .slice A n c] 31)) 33 #[.int .i64 F, .int .i64 T]).cell 0); have s1 := e1.cell ((Blk.new (w.alloc (.cells #[.int .i64 B, .int .i64 E, .int .i64 L, .slice A n c] 31)) 33 #[.int .i64 F, .int .i64 T]).cell 1); rw [World.size_alloc] at s0 s1) | ((go_at_call 87; with_reducible refine (out_no ?_ _).mono ?_); (focus omega); rintro e w' ⟨rfl, rfl⟩) | ((go_at_call 87; with_reducible refine (out_yes ?_ _).mono ?_); (focus omega); rintro e w' ⟨rfl, rfl⟩))
        go_ret2
        exact givesL_nil _ (Ext.trans (ext_alloc (Ext.alloc _ _) _) (by assumption))
      · have hg2 : 1000000000 < la := by omega
        clear hg
        go_enter Try.func28, Try.ntmps28
        go_wp2_with (first | ((go_at_call 53; with_reducible refine (HC.out _).mono ?_); rintro e w1 ⟨rfl, e1⟩; have z1 := e1.size; have c0 := e1.cell (((Blk.new w 31 #[.int .i64 B, .int .i64 E, .int .i64 L, .slice A n c]).alloc (.cells #[.int .i64 F, .int .i64 T] 33)).cell 0); have c1 := e1.cell (((Blk.new w 31 #[.int .i64 B, .int .i64 E, .int .i64 L, .slice A n c]).alloc (.cells #[.int .i64 F, .int .i64 T] 33)).cell 1); have c2 := e1.cell (((Blk.new w 31 #[.int .i64 B, .int .i64 E, .int .i64 L, .slice A n c]).alloc (.cells #[.int .i64 F, .int .i64 T] 33)).cell 2); have s0 := e1.cell ((Blk.new (w.alloc (.cells #[.int .i64 B, .int .i64 E, .int .i64 L, .slice A n c] 31)) 33 #[.int .i64 F, .int .i64 T]).cell 0); have s1 := e1.cell ((Blk.new (w.alloc (.cells #[.int .i64 B, .int .i64 E, .int .i64 L, .slice A n c] 31)) 33 #[.int .i64 F, .int .i64 T]).cell 1); rw [World.size_alloc] at s0 s1) | ((go_at_call 87; with_reducible refine (out_no ?_ _).mono ?_); (focus omega); rintro e w' ⟨rfl, rfl⟩) | ((go_at_call 87; with_reducible refine (out_yes ?_ _).mono ?_); (focus omega); rintro e w' ⟨rfl, rfl⟩))
        go_ret2
        exact givesL_nil _ (Ext.trans (ext_alloc (Ext.alloc _ _) _) (by assumption))
  have hf : needF B E L n F T = 0 := by unfold needF; rw [if_neg (by omega), if_neg hFT, if_neg ho, if_neg hb, if_neg hg]
  rw [hf, if_neg (by omega)]
  clear hf hFT hr
  have e2 : (T + L - 1 - B) / E = lastP B E L T := rfl
  obtain ⟨i0, hi0, hz0, hz1, hz2⟩ := info_parts Try.info3
  by_cases hFB : F ≤ B
  · rcases (show F < B ∨ F - B = 0 by omega) with hsub | hsub
    all_goals
      have hw64 : wrap64 (lastP B E L T) = lastP B E L T := w64 (by omega) (by omega)
      have hw65 : wrap64 (lastP B E L T + 1) = lastP B E L T + 1 := w64 (by omega) (by omega)
      have hw66 : wrap64 (wrap64 (lastP B E L T) + 1) = lastP B E L T + 1 := by rw [hw64, hw65]
      have e1 : firstP B E F = 0 := by unfold firstP; rw [if_pos hFB, Int.zero_ediv]
      rw [e1] at hfl hg hf0 hf1 ⊢
      clear e1
      generalize lastP B E L T = la at *
      have hg1 : la < 1000 := by omega
      clear hg
      go_enter Try.func28, Try.ntmps28
      go_wp2_with (first | ((go_at_call 53; with_reducible refine (HC.out _).mono ?_); rintro e w1 ⟨rfl, e1⟩; have z1 := e1.size; have c0 := e1.cell (((Blk.new w 31 #[.int .i64 B, .int .i64 E, .int .i64 L, .slice A n c]).alloc (.cells #[.int .i64 F, .int .i64 T] 33)).cell 0); have c1 := e1.cell (((Blk.new w 31 #[.int .i64 B, .int .i64 E, .int .i64 L, .slice A n c]).alloc (.cells #[.int .i64 F, .int .i64 T] 33)).cell 1); have c2 := e1.cell (((Blk.new w 31 #[.int .i64 B, .int .i64 E, .int .i64 L, .slice A n c]).alloc (.cells #[.int .i64 F, .int .i64 T] 33)).cell 2); have s0 := e1.cell ((Blk.new (w.alloc (.cells #[.int .i64 B, .int .i64 E, .int .i64 L, .slice A n c] 31)) 33 #[.int .i64 F, .int .i64 T]).cell 0); have s1 := e1.cell ((Blk.new (w.alloc (.cells #[.int .i64 B, .int .i64 E, .int .i64 L, .slice A n c] 31)) 33 #[.int .i64 F, .int .i64 T]).cell 1); rw [World.size_alloc] at s0 s1) | ((go_at_call 87; with_reducible refine (out_no ?_ _).mono ?_); (focus omega); rintro e w' ⟨rfl, rfl⟩) | ((go_at_call 87; with_reducible refine (out_yes ?_ _).mono ?_); (focus omega); rintro e w' ⟨rfl, rfl⟩))
      have X1 := hide (Ext.trans (ext_alloc (Ext.alloc w (.cells #[.int .i64 B, .int .i64 E, .int .i64 L, .slice A n c] 31)) (.cells #[.int .i64 F, .int .i64 T] 33)) e1)
      clear e1 c0 c1 c2 s0 s1
      go_loopw [10, 11] (fun ro ri wr => ∃ k : Nat, k ≤ (la + 1).toNat ∧ ri = .int .i64 k ∧ Hid (Own wr w1.heap.size 3 1 e64 ro (spanL 0 k)) ∧ Hid (Ext w1 wr)) (fun _ ri _ => (la + 1 - intOf ri).toNat)
      case atStart => exact ⟨0, by omega, rfl, hide (Own.nil _ _ _ _ _), hide (Ext.refl _)⟩
      case round =>
        obtain ⟨k, hk, rfl, HO, HX⟩ := hrel
        by_cases hlt : (k : Int) ≤ la
        · have A7 := hide (At.one64 wr (k : Int))
          have O7 := hide (HO.out.ext (Ext.alloc wr (.cells #[.int .i64 (k : Int)] 3)))
          have E7 := hide (ext_alloc HX.out (.cells #[.int .i64 (k : Int)] 3))
          have z7 := E7.out.size
          have hl7 : Hid ((spanL 0 k).length = k) := hide (length_spanL 0 k)
          have hs7 : Hid (spanL 0 k ++ [(k : Int)] = spanL 0 (k + 1)) := hide (by have := spanL_succ 0 k; rwa [Int.zero_add] at this)
          clear HO HX
          go_wp2_with (at_builtin; refine wpList_append_at _ rfl (.tmp 72) (.tmp 74) 34 rfl w1.heap.size 3 i0 _ 8 Try.underlying34 hi0 hz0 hz1 hz2 rfl (by omega) len_e64 one_e64 _ (spanL 0 k) rfl O7.out (some ⟨wr.heap.size, 0, none⟩) 1 1 [(k : Int)] rfl A7.out ?d1 ?d2 ?d3 ?_)
          case d1 => rw [hl7.out]; unfold maxLen; omega
          case d2 => rw [hl7.out]; omega
          case d3 => exact z7
          intro v8 w8 o8 g8 _ _
          rw [hs7.out] at o8
          have O8 := hide o8
          have E8 : Hid (Ext w1 w8) := hide (O7.out.below E7.out g8 (Nat.le_refl _))
          clear o8 g8 O7 E7 z7 A7
          go_wp2
          go_roundw
          case rel =>
            first
              | exact ⟨k + 1, by omega, by go_num, O8.out, E8.out⟩
              | ((repeat apply Exists.intro); exact ⟨⟨k + 1, by omega, by go_num, O8.out, E8.out⟩, rfl⟩)
          case measure => simp [intOf]; omega
        · have hkk : k = (la + 1).toNat := by omega
          have HK := hide hkk
          clear hkk
          obtain ⟨A9, c9, hv9, a9⟩ := HO.out.at_ len_e64
          rw [hv9]
          have hl9 := length_spanL 0 k
          have HV := hide a9
          have HL := hide hl9
          clear hv9 a9 hl9 HO
          go_wp2
          go_ret2
          exact ⟨_, _, _, rfl, by rw [← HK.out]; exact HV.out, Ext.trans X1.out HX.out⟩
  · have e1 : (F - B) / E = firstP B E F := by unfold firstP; rw [if_neg hFB]
    generalize firstP B E F = f at *
    generalize lastP B E L T = la at *
    have hFB' : B < F := by omega
    clear hFB
    have hg1 : la - f < 1000 := by omega
    have hg2 : la ≤ 1000000000 := by omega
    clear hg
    go_enter Try.func28, Try.ntmps28
    go_wp2_with (first | ((go_at_call 53; with_reducible refine (HC.out _).mono ?_); rintro e w1 ⟨rfl, e9⟩; have z1 := e9.size; have c0 := e9.cell (((Blk.new w 31 #[.int .i64 B, .int .i64 E, .int .i64 L, .slice A n c]).alloc (.cells #[.int .i64 F, .int .i64 T] 33)).cell 0); have c1 := e9.cell (((Blk.new w 31 #[.int .i64 B, .int .i64 E, .int .i64 L, .slice A n c]).alloc (.cells #[.int .i64 F, .int .i64 T] 33)).cell 1); have c2 := e9.cell (((Blk.new w 31 #[.int .i64 B, .int .i64 E, .int .i64 L, .slice A n c]).alloc (.cells #[.int .i64 F, .int .i64 T] 33)).cell 2); have s0 := e9.cell ((Blk.new (w.alloc (.cells #[.int .i64 B, .int .i64 E, .int .i64 L, .slice A n c] 31)) 33 #[.int .i64 F, .int .i64 T]).cell 0); have s1 := e9.cell ((Blk.new (w.alloc (.cells #[.int .i64 B, .int .i64 E, .int .i64 L, .slice A n c] 31)) 33 #[.int .i64 F, .int .i64 T]).cell 1); rw [World.size_alloc] at s0 s1) | ((go_at_call 87; with_reducible refine (out_no ?_ _).mono ?_); (focus omega); rintro e w' ⟨rfl, rfl⟩) | ((go_at_call 87; with_reducible refine (out_yes ?_ _).mono ?_); (focus omega); rintro e w' ⟨rfl, rfl⟩))
    have X1 := hide (Ext.trans (ext_alloc (Ext.alloc w (.cells #[.int .i64 B, .int .i64 E, .int .i64 L, .slice A n c] 31)) (.cells #[.int .i64 F, .int .i64 T] 33)) e9)
    clear e9 c0 c1 c2 s0 s1 e1 e2
    go_loopw [10, 11] (fun ro ri wr => ∃ k : Nat, k ≤ (la - f + 1).toNat ∧ ri = .int .i64 (f + k) ∧ Hid (Own wr w1.heap.size 3 1 e64 ro (spanL f k)) ∧ Hid (Ext w1 wr)) (fun _ ri _ => (la + 1 - intOf ri).toNat)
    case atStart => exact ⟨0, by omega, by simp, hide (Own.nil _ _ _ _ _), hide (Ext.refl _)⟩
    case round =>
      obtain ⟨k, hk, rfl, HO, HX⟩ := hrel
      by_cases hlt : f + (k : Int) ≤ la
      · have A7 := hide (At.one64 wr (f + (k : Int)))
        have O7 := hide (HO.out.ext (Ext.alloc wr (.cells #[.int .i64 (f + (k : Int))] 3)))
        have E7 := hide (ext_alloc HX.out (.cells #[.int .i64 (f + (k : Int))] 3))
        have z7 := E7.out.size
        have hl7 : Hid ((spanL f k).length = k) := hide (length_spanL f k)
        have hs7 : Hid (spanL f k ++ [f + (k : Int)] = spanL f (k + 1)) := hide (spanL_succ f k)
        clear HO HX
        go_wp2_with (at_builtin; refine wpList_append_at _ rfl (.tmp 72) (.tmp 74) 34 rfl w1.heap.size 3 i0 _ 8 Try.underlying34 hi0 hz0 hz1 hz2 rfl (by omega) len_e64 one_e64 _ (spanL f k) rfl O7.out (some ⟨wr.heap.size, 0, none⟩) 1 1 [f + (k : Int)] rfl A7.out ?d1 ?d2 ?d3 ?_)
        case d1 => rw [hl7.out]; unfold maxLen; omega
        case d2 => rw [hl7.out]; omega
        case d3 => exact z7
        intro v8 w8 o8 g8 _ _
        rw [hs7.out] at o8
        have O8 := hide o8
        have E8 : Hid (Ext w1 w8) := hide (O7.out.below E7.out g8 (Nat.le_refl _))
        clear o8 g8 O7 E7 z7 A7
        go_wp2
        go_roundw
        case rel =>
          first
            | exact ⟨k + 1, by omega, int_val (by omega), O8.out, E8.out⟩
            | ((repeat apply Exists.intro); exact ⟨⟨k + 1, by omega, int_val (by omega), O8.out, E8.out⟩, rfl⟩)
        case measure => simp [intOf]; omega
      · have hkk : k = (la - f + 1).toNat := by omega
        have HK := hide hkk
        clear hkk
        obtain ⟨A9, c9, hv9, a9⟩ := HO.out.at_ len_e64
        rw [hv9]
        have hl9 := length_spanL f k
        have HV := hide a9
        have HL := hide hl9
        clear hv9 a9 hl9 HO
        go_wp2
        go_ret2
        exact ⟨_, _, _, rfl, by rw [← HK.out]; exact HV.out, Ext.trans X1.out HX.out⟩

set_option maxRecDepth 100000 in
set_option maxHeartbeats 4000000 in
theorem refNeeded_any (B E L : Int) (A : Option Addr) (n c : Nat) (F T : Int) (w : World) :
    Calls Try.prog 59 #[rotV B E L A n c, spanV F T] w (GivesL w (needL B E L n F T) (needF B E L n F T)) := by
  unfold needL
  by_cases hr : rotF B E L n = 0
  rotate_left
  · have hf : needF B E L n F T = rotF B E L n := by unfold needF; rw [if_pos hr]
    rw [hf, if_pos (.inl hr)]
    have hr' : (rotF B E L n != 0) = true := by rw [bne_iff_ne]; exact hr
    have HC := hide (fun W : World => refCheckRotation_any B E L A n c W)
    generalize rotF B E L n = r at *
    clear hr hf
    go_enter Try.func59, Try.ntmps59
    go_wp2_with (first | ((go_at_call 54; with_reducible refine (HC.out _).mono ?_); rintro e w1 ⟨rfl, e1⟩; skip) | ((go_at_call 92; with_reducible refine (within_yes ?_ _).mono ?_); (focus omega); rintro e w' ⟨rfl, rfl⟩) | ((go_at_call 92; with_reducible refine (within_no ?_ _).mono ?_); (focus omega); rintro e w' ⟨rfl, rfl⟩))
    go_ret2
    exact givesL_nil _ (Ext.trans (ext_alloc (Ext.alloc _ _) _) e1)
  obtain ⟨hB, hE, hL, hn⟩ := rotF_zero hr
  have hc := fun W : World => refCheckRotation_any B E L A n c W
  rw [hr] at hc
  have HC := hide hc
  clear hc
  by_cases hFT : F < 0 ∨ 1000000000000000 < F ∨ T < 0 ∨ 1000000000000000 < T
  · have hf : needF B E L n F T = 1 := by unfold needF; rw [if_neg (by omega), if_pos hFT]
    rw [hf, if_pos (.inl (by decide))]
    clear hf hr
    by_cases hF : 0 ≤ F ∧ F ≤ 1000000000000000
    · go_enter Try.func59, Try.ntmps59
      go_wp2_with (first | ((go_at_call 54; with_reducible refine (HC.out _).mono ?_); rintro e w1 ⟨rfl, e1⟩; have z1 := e1.size; have c0 := e1.cell (((Blk.new w 31 #[.int .i64 B, .int .i64 E, .int .i64 L, .slice A n c]).alloc (.cells #[.int .i64 F, .int .i64 T] 33)).cell 0); have c1 := e1.cell (((Blk.new w 31 #[.int .i64 B, .int .i64 E, .int .i64 L, .slice A n c]).alloc (.cells #[.int .i64 F, .int .i64 T] 33)).cell 1); have c2 := e1.cell (((Blk.new w 31 #[.int .i64 B, .int .i64 E, .int .i64 L, .slice A n c]).alloc (.cells #[.int .i64 F, .int .i64 T] 33)).cell 2); have s0 := e1.cell ((Blk.new (w.alloc (.cells #[.int .i64 B, .int .i64 E, .int .i64 L, .slice A n c] 31)) 33 #[.int .i64 F, .int .i64 T]).cell 0); have s1 := e1.cell ((Blk.new (w.alloc (.cells #[.int .i64 B, .int .i64 E, .int .i64 L, .slice A n c] 31)) 33 #[.int .i64 F, .int .i64 T]).cell 1); rw [World.size_alloc] at s0 s1) | ((go_at_call 92; with_reducible refine (within_yes ?_ _).mono ?_); (focus omega); rintro e w' ⟨rfl, rfl⟩) | ((go_at_call 92; with_reducible refine (within_no ?_ _).mono ?_); (focus omega); rintro e w' ⟨rfl, rfl⟩))
      go_ret2
      exact givesL_nil _ (Ext.trans (ext_alloc (Ext.alloc _ _) _) e1)
    · go_enter Try.func59, Try.ntmps59
      go_wp2_with (first | ((go_at_call 54; with_reducible refine (HC.out _).mono ?_); rintro e w1 ⟨rfl, e1⟩; have z1 := e1.size; have c0 := e1.cell (((Blk.new w 31 #[.int .i64 B, .int .i64 E, .int .i64 L, .slice A n c]).alloc (.cells #[.int .i64 F, .int .i64 T] 33)).cell 0); have c1 := e1.cell (((Blk.new w 31 #[.int .i64 B, .int .i64 E, .int .i64 L, .slice A n c]).alloc (.cells #[.int .i64 F, .int .i64 T] 33)).cell 1); have c2 := e1.cell (((Blk.new w 31 #[.int .i64 B, .int .i64 E, .int .i64 L, .slice A n c]).alloc (.cells #[.int .i64 F, .int .i64 T] 33)).cell 2); have s0 := e1.cell ((Blk.new (w.alloc (.cells #[.int .i64 B, .int .i64 E, .int .i64 L, .slice A n c] 31)) 33 #[.int .i64 F, .int .i64 T]).cell 0); have s1 := e1.cell ((Blk.new (w.alloc (.cells #[.int .i64 B, .int .i64 E, .int .i64 L, .slice A n c] 31)) 33 #[.int .i64 F, .int .i64 T]).cell 1); rw [World.size_alloc] at s0 s1) | ((go_at_call 92; with_reducible refine (within_yes ?_ _).mono ?_); (focus omega); rintro e w' ⟨rfl, rfl⟩) | ((go_at_call 92; with_reducible refine (within_no ?_ _).mono ?_); (focus omega); rintro e w' ⟨rfl, rfl⟩))
      go_ret2
      exact givesL_nil _ (Ext.trans (ext_alloc (Ext.alloc _ _) _) e1)
  have hF : 0 ≤ F ∧ F ≤ 1000000000000000 := by omega
  have hT : 0 ≤ T ∧ T ≤ 1000000000000000 := by omega
  by_cases ho : T ≤ F
  · have hf : needF B E L n F T = 8 := by unfold needF; rw [if_neg (by omega), if_neg hFT, if_pos ho]
    rw [hf, if_pos (.inl (by decide))]
    clear hf hFT hr
    go_enter Try.func59, Try.ntmps59
    go_wp2_with (first | ((go_at_call 54; with_reducible refine (HC.out _).mono ?_); rintro e w1 ⟨rfl, e1⟩; have z1 := e1.size; have c0 := e1.cell (((Blk.new w 31 #[.int .i64 B, .int .i64 E, .int .i64 L, .slice A n c]).alloc (.cells #[.int .i64 F, .int .i64 T] 33)).cell 0); have c1 := e1.cell (((Blk.new w 31 #[.int .i64 B, .int .i64 E, .int .i64 L, .slice A n c]).alloc (.cells #[.int .i64 F, .int .i64 T] 33)).cell 1); have c2 := e1.cell (((Blk.new w 31 #[.int .i64 B, .int .i64 E, .int .i64 L, .slice A n c]).alloc (.cells #[.int .i64 F, .int .i64 T] 33)).cell 2); have s0 := e1.cell ((Blk.new (w.alloc (.cells #[.int .i64 B, .int .i64 E, .int .i64 L, .slice A n c] 31)) 33 #[.int .i64 F, .int .i64 T]).cell 0); have s1 := e1.cell ((Blk.new (w.alloc (.cells #[.int .i64 B, .int .i64 E, .int .i64 L, .slice A n c] 31)) 33 #[.int .i64 F, .int .i64 T]).cell 1); rw [World.size_alloc] at s0 s1) | ((go_at_call 92; with_reducible refine (within_yes ?_ _).mono ?_); (focus omega); rintro e w' ⟨rfl, rfl⟩) | ((go_at_call 92; with_reducible refine (within_no ?_ _).mono ?_); (focus omega); rintro e w' ⟨rfl, rfl⟩))
    go_ret2
    exact givesL_nil _ (Ext.trans (ext_alloc (Ext.alloc _ _) _) e1)
  by_cases hb : T + L ≤ B
  · have hf : needF B E L n F T = 0 := by unfold needF; rw [if_neg (by omega), if_neg hFT, if_neg ho, if_pos hb]
    rw [hf, if_pos (.inr hb)]
    clear hf hFT hr
    go_enter Try.func59, Try.ntmps59
    go_wp2_with (first | ((go_at_call 54; with_reducible refine (HC.out _).mono ?_); rintro e w1 ⟨rfl, e1⟩; have z1 := e1.size; have c0 := e1.cell (((Blk.new w 31 #[.int .i64 B, .int .i64 E, .int .i64 L, .slice A n c]).alloc (.cells #[.int .i64 F, .int .i64 T] 33)).cell 0); have c1 := e1.cell (((Blk.new w 31 #[.int .i64 B, .int .i64 E, .int .i64 L, .slice A n c]).alloc (.cells #[.int .i64 F, .int .i64 T] 33)).cell 1); have c2 := e1.cell (((Blk.new w 31 #[.int .i64 B, .int .i64 E, .int .i64 L, .slice A n c]).alloc (.cells #[.int .i64 F, .int .i64 T] 33)).cell 2); have s0 := e1.cell ((Blk.new (w.alloc (.cells #[.int .i64 B, .int .i64 E, .int .i64 L, .slice A n c] 31)) 33 #[.int .i64 F, .int .i64 T]).cell 0); have s1 := e1.cell ((Blk.new (w.alloc (.cells #[.int .i64 B, .int .i64 E, .int .i64 L, .slice A n c] 31)) 33 #[.int .i64 F, .int .i64 T]).cell 1); rw [World.size_alloc] at s0 s1) | ((go_at_call 92; with_reducible refine (within_yes ?_ _).mono ?_); (focus omega); rintro e w' ⟨rfl, rfl⟩) | ((go_at_call 92; with_reducible refine (within_no ?_ _).mono ?_); (focus omega); rintro e w' ⟨rfl, rfl⟩))
    go_ret2
    exact givesL_nil _ (Ext.trans (ext_alloc (Ext.alloc _ _) _) e1)
  have hfl := first_le (B := B) (E := E) (L := L) (F := F) (T := T) (by omega) (by omega) (by omega) (by omega)
  obtain ⟨hf0, hf1⟩ := firstP_bd (B := B) (E := E) (F := F) (by omega) (by omega) (by omega)
  obtain ⟨hl0, hl1⟩ := lastP_bd (B := B) (E := E) (L := L) (T := T) (by omega) (by omega) (by omega) (by omega)
  by_cases hg : 1000 ≤ lastP B E L T - firstP B E F ∨ 1000000000 < lastP B E L T
  · have hf : needF B E L n F T = 2 := by unfold needF; rw [if_neg (by omega), if_neg hFT, if_neg ho, if_neg hb, if_pos hg]
    rw [hf, if_pos (.inl (by decide))]
    clear hf hFT hr
    have e2 : (T + L - 1 - B) / E = lastP B E L T := rfl
    by_cases hFB : F ≤ B
    · rcases (show F < B ∨ F - B = 0 by omega) with hsub | hsub
      all_goals
        have hw64 : wrap64 (lastP B E L T) = lastP B E L T := w64 (by omega) (by omega)
        have hw65 : wrap64 (lastP B E L T + 1) = lastP B E L T + 1 := w64 (by omega) (by omega)
        have hw66 : wrap64 (wrap64 (lastP B E L T) + 1) = lastP B E L T + 1 := by rw [hw64, hw65]
        have e1 : firstP B E F = 0 := by unfold firstP; rw [if_pos hFB, Int.zero_ediv]
        rw [e1] at hfl hg hf0 hf1
        clear e1
        generalize lastP B E L T = la at *
        by_cases hg1 : 1000 ≤ la
        · clear hg
          go_enter Try.func59, Try.ntmps59
          go_wp2_with (first | ((go_at_call 54; with_reducible refine (HC.out _).mono ?_); rintro e w1 ⟨rfl, e1⟩; have z1 := e1.size; have c0 := e1.cell (((Blk.new w 31 #[.int .i64 B, .int .i64 E, .int .i64 L, .slice A n c]).alloc (.cells #[.int .i64 F, .int .i64 T] 33)).cell 0); have c1 := e1.cell (((Blk.new w 31 #[.int .i64 B, .int .i64 E, .int .i64 L, .slice A n c]).alloc (.cells #[.int .i64 F, .int .i64 T] 33)).cell 1); have c2 := e1.cell (((Blk.new w 31 #[.int .i64 B, .int .i64 E, .int .i64 L, .slice A n c]).alloc (.cells #[.int .i64 F, .int .i64 T] 33)).cell 2); have s0 := e1.cell ((Blk.new (w.alloc (.cells #[.int .i64 B, .int .i64 E, .int .i64 L, .slice A n c] 31)) 33 #[.int .i64 F, .int .i64 T]).cell 0); have s1 := e1.cell ((Blk.new (w.alloc (.cells #[.int .i64 B, .int .i64 E, .int .i64 L, .slice A n c] 31)) 33 #[.int .i64 F, .int .i64 T]).cell 1); rw [World.size_alloc] at s0 s1) | ((go_at_call 92; with_reducible refine (within_yes ?_ _).mono ?_); (focus omega); rintro e w' ⟨rfl, rfl⟩) | ((go_at_call 92; with_reducible refine (within_no ?_ _).mono ?_); (focus omega); rintro e w' ⟨rfl, rfl⟩))
          go_ret2
          exact givesL_nil _ (Ext.trans (ext_alloc (Ext.alloc _ _) _) e1)
        · exfalso; omega
    · have e1 : (F - B) / E = firstP B E F := by unfold firstP; rw [if_neg hFB]
      generalize firstP B E F = f at *
      generalize lastP B E L T = la at *
      have hFB' : B < F := by omega
      clear hFB
      by_cases hg1 : 1000 ≤ la - f
      · clear hg
        go_enter Try.func59, Try.ntmps59
        go_wp2_with (first | ((go_at_call 54; with_reducible refine (HC.out _).mono ?_); rintro e w1 ⟨rfl, e1⟩; have z1 := e1.size; have c0 := e1.cell (((Blk.new w 31 #[.int .i64 B, .int .i64 E, .int .i64 L, .slice A n c]).alloc (.cells #[.int .i64 F, .int .i64 T] 33)).cell 0); have c1 := e1.cell (((Blk.new w 31 #[.int .i64 B, .int .i64 E, .int .i64 L, .slice A n c]).alloc (.cells #[.int .i64 F, .int .i64 T] 33)).cell 1); have c2 := e1.cell (((Blk.new w 31 #[.int .i64 B, .int .i64 E, .int .i64 L, .slice A n c]).alloc (.cells #[.int .i64 F, .int .i64 T] 33)).cell 2); have s0 := e1.cell ((Blk.new (w.alloc (.cells #[.int .i64 B, .int .i64 E, .int .i64 L, .slice A n c] 31)) 33 #[.int .i64 F, .int .i64 T]).cell 0); have s1 := e1.cell ((Blk.new (w.alloc (.cells #[.int .i64 B, .int .i64 E, .int .i64 L, .slice A n c] 31)) 33 #[.int .i64 F, .int .i64 T]).cell 1); rw [World.size_alloc] at s0 s1) | ((go_at_call 92; with_reducible refine (within_yes ?_ _).mono ?_); (focus omega); rintro e w' ⟨rfl, rfl⟩) | ((go_at_call 92; with_reducible refine (within_no ?_ _).mono ?_); (focus omega); rintro e w' ⟨rfl, rfl⟩))
        go_ret2
        exact givesL_nil _ (Ext.trans (ext_alloc (Ext.alloc _ _) _) (by assumption))
      · have hg2 : 1000000000 < la := by omega
        clear hg
        go_enter Try.func59, Try.ntmps59
        go_wp2_with (first | ((go_at_call 54; with_reducible refine (HC.out _).mono ?_); rintro e w1 ⟨rfl, e1⟩; have z1 := e1.size; have c0 := e1.cell (((Blk.new w 31 #[.int .i64 B, .int .i64 E, .int .i64 L, .slice A n c]).alloc (.cells #[.int .i64 F, .int .i64 T] 33)).cell 0); have c1 := e1.cell (((Blk.new w 31 #[.int .i64 B, .int .i64 E, .int .i64 L, .slice A n c]).alloc (.cells #[.int .i64 F, .int .i64 T] 33)).cell 1); have c2 := e1.cell (((Blk.new w 31 #[.int .i64 B, .int .i64 E, .int .i64 L, .slice A n c]).alloc (.cells #[.int .i64 F, .int .i64 T] 33)).cell 2); have s0 := e1.cell ((Blk.new (w.alloc (.cells #[.int .i64 B, .int .i64 E, .int .i64 L, .slice A n c] 31)) 33 #[.int .i64 F, .int .i64 T]).cell 0); have s1 := e1.cell ((Blk.new (w.alloc (.cells #[.int .i64 B, .int .i64 E, .int .i64 L, .slice A n c] 31)) 33 #[.int .i64 F, .int .i64 T]).cell 1); rw [World.size_alloc] at s0 s1) | ((go_at_call 92; with_reducible refine (within_yes ?_ _).mono ?_); (focus omega); rintro e w' ⟨rfl, rfl⟩) | ((go_at_call 92; with_reducible refine (within_no ?_ _).mono ?_); (focus omega); rintro e w' ⟨rfl, rfl⟩))
        go_ret2
        exact givesL_nil _ (Ext.trans (ext_alloc (Ext.alloc _ _) _) (by assumption))
  have hf : needF B E L n F T = 0 := by unfold needF; rw [if_neg (by omega), if_neg hFT, if_neg ho, if_neg hb, if_neg hg]
  rw [hf, if_neg (by omega)]
  clear hf hFT hr
  have e2 : (T + L - 1 - B) / E = lastP B E L T := rfl
  obtain ⟨i0, hi0, hz0, hz1, hz2⟩ := info_parts Try.info3
  by_cases hFB : F ≤ B
  · rcases (show F < B ∨ F - B = 0 by omega) with hsub | hsub
    all_goals
      have hw64 : wrap64 (lastP B E L T) = lastP B E L T := w64 (by omega) (by omega)
      have hw65 : wrap64 (lastP B E L T + 1) = lastP B E L T + 1 := w64 (by omega) (by omega)
      have hw66 : wrap64 (wrap64 (lastP B E L T) + 1) = lastP B E L T + 1 := by rw [hw64, hw65]
      have e1 : firstP B E F = 0 := by unfold firstP; rw [if_pos hFB, Int.zero_ediv]
      rw [e1] at hfl hg hf0 hf1 ⊢
      clear e1
      generalize lastP B E L T = la at *
      have hg1 : la < 1000 := by omega
      clear hg
      go_enter Try.func59, Try.ntmps59
      go_wp2_with (first | ((go_at_call 54; with_reducible refine (HC.out _).mono ?_); rintro e w1 ⟨rfl, e1⟩; have z1 := e1.size; have c0 := e1.cell (((Blk.new w 31 #[.int .i64 B, .int .i64 E, .int .i64 L, .slice A n c]).alloc (.cells #[.int .i64 F, .int .i64 T] 33)).cell 0); have c1 := e1.cell (((Blk.new w 31 #[.int .i64 B, .int .i64 E, .int .i64 L, .slice A n c]).alloc (.cells #[.int .i64 F, .int .i64 T] 33)).cell 1); have c2 := e1.cell (((Blk.new w 31 #[.int .i64 B, .int .i64 E, .int .i64 L, .slice A n c]).alloc (.cells #[.int .i64 F, .int .i64 T] 33)).cell 2); have s0 := e1.cell ((Blk.new (w.alloc (.cells #[.int .i64 B, .int .i64 E, .int .i64 L, .slice A n c] 31)) 33 #[.int .i64 F, .int .i64 T]).cell 0); have s1 := e1.cell ((Blk.new (w.alloc (.cells #[.int .i64 B, .int .i64 E, .int .i64 L, .slice A n c] 31)) 33 #[.int .i64 F, .int .i64 T]).cell 1); rw [World.size_alloc] at s0 s1) | ((go_at_call 92; with_reducible refine (within_yes ?_ _).mono ?_); (focus omega); rintro e w' ⟨rfl, rfl⟩) | ((go_at_call 92; with_reducible refine (within_no ?_ _).mono ?_); (focus omega); rintro e w' ⟨rfl, rfl⟩))
      have X1 := hide (Ext.trans (ext_alloc (Ext.alloc w (.cells #[.int .i64 B, .int .i64 E, .int .i64 L, .slice A n c] 31)) (.cells #[.int .i64 F, .int .i64 T] 33)) e1)
      clear e1 c0 c1 c2 s0 s1
      go_loopw [10, 11] (fun ro ri wr => ∃ k : Nat, k ≤ (la + 1).toNat ∧ ri = .int .i64 k ∧ Hid (Own wr w1.heap.size 3 1 e64 ro (spanL 0 k)) ∧ Hid (Ext w1 wr)) (fun _ ri _ => (la + 1 - intOf ri).toNat)
      case atStart => exact ⟨0, by omega, rfl, hide (Own.nil _ _ _ _ _), hide (Ext.refl _)⟩
      case round =>
        obtain ⟨k, hk, rfl, HO, HX⟩ := hrel
        by_cases hlt : (k : Int) ≤ la
        · have A7 := hide (At.one64 wr (k : Int))
          have O7 := hide (HO.out.ext (Ext.alloc wr (.cells #[.int .i64 (k : Int)] 3)))
          have E7 := hide (ext_alloc HX.out (.cells #[.int .i64 (k : Int)] 3))
          have z7 := E7.out.size
          have hl7 : Hid ((spanL 0 k).length = k) := hide (length_spanL 0 k)
          have hs7 : Hid (spanL 0 k ++ [(k : Int)] = spanL 0 (k + 1)) := hide (by have := spanL_succ 0 k; rwa [Int.zero_add] at this)
          clear HO HX
          go_wp2_with (at_builtin; refine wpList_append_at _ rfl (.tmp 75) (.tmp 77) 34 rfl w1.heap.size 3 i0 _ 8 Try.underlying34 hi0 hz0 hz1 hz2 rfl (by omega) len_e64 one_e64 _ (spanL 0 k) rfl O7.out (some ⟨wr.heap.size, 0, none⟩) 1 1 [(k : Int)] rfl A7.out ?d1 ?d2 ?d3 ?_)
          case d1 => rw [hl7.out]; unfold maxLen; omega
          case d2 => rw [hl7.out]; omega
          case d3 => exact z7
          intro v8 w8 o8 g8 _ _
          rw [hs7.out] at o8
          have O8 := hide o8
          have E8 : Hid (Ext w1 w8) := hide (O7.out.below E7.out g8 (Nat.le_refl _))
          clear o8 g8 O7 E7 z7 A7
          go_wp2
          go_roundw
          case rel =>
            first
              | exact ⟨k + 1, by omega, by go_num, O8.out, E8.out⟩
              | ((repeat apply Exists.intro); exact ⟨⟨k + 1, by omega, by go_num, O8.out, E8.out⟩, rfl⟩)
          case measure => simp [intOf]; omega
        · have hkk : k = (la + 1).toNat := by omega
          have HK := hide hkk
          clear hkk
          obtain ⟨A9, c9, hv9, a9⟩ := HO.out.at_ len_e64
          rw [hv9]
          have hl9 := length_spanL 0 k
          have HV := hide a9
          have HL := hide hl9
          clear hv9 a9 hl9 HO
          go_wp2
          go_ret2
          exact ⟨_, _, _, rfl, by rw [← HK.out]; exact HV.out, Ext.trans X1.out HX.out⟩
  · have e1 : (F - B) / E = firstP B E F := by unfold firstP; rw [if_neg hFB]
    generalize firstP B E F = f at *
    generalize lastP B E L T = la at *
    have hFB' : B < F := by omega
    clear hFB
    have hg1 : la - f < 1000 := by omega
    have hg2 : la ≤ 1000000000 := by omega
    clear hg
    go_enter Try.func59, Try.ntmps59
    go_wp2_with (first | ((go_at_call 54; with_reducible refine (HC.out _).mono ?_); rintro e w1 ⟨rfl, e9⟩; have z1 := e9.size; have c0 := e9.cell (((Blk.new w 31 #[.int .i64 B, .int .i64 E, .int .i64 L, .slice A n c]).alloc (.cells #[.int .i64 F, .int .i64 T] 33)).cell 0); have c1 := e9.cell (((Blk.new w 31 #[.int .i64 B, .int .i64 E, .int .i64 L, .slice A n c]).alloc (.cells #[.int .i64 F, .int .i64 T] 33)).cell 1); have c2 := e9.cell (((Blk.new w 31 #[.int .i64 B, .int .i64 E, .int .i64 L, .slice A n c]).alloc (.cells #[.int .i64 F, .int .i64 T] 33)).cell 2); have s0 := e9.cell ((Blk.new (w.alloc (.cells #[.int .i64 B, .int .i64 E, .int .i64 L, .slice A n c] 31)) 33 #[.int .i64 F, .int .i64 T]).cell 0); have s1 := e9.cell ((Blk.new (w.alloc (.cells #[.int .i64 B, .int .i64 E, .int .i64 L, .slice A n c] 31)) 33 #[.int .i64 F, .int .i64 T]).cell 1); rw [World.size_alloc] at s0 s1) | ((go_at_call 92; with_reducible refine (within_yes ?_ _).mono ?_); (focus omega); rintro e w' ⟨rfl, rfl⟩) | ((go_at_call 92; with_reducible refine (within_no ?_ _).mono ?_); (focus omega); rintro e w' ⟨rfl, rfl⟩))
    have X1 := hide (Ext.trans (ext_alloc (Ext.alloc w (.cells #[.int .i64 B, .int .i64 E, .int .i64 L, .slice A n c] 31)) (.cells #[.int .i64 F, .int .i64 T] 33)) e9)
    clear e9 c0 c1 c2 s0 s1 e1 e2
    go_loopw [10, 11] (fun ro ri wr => ∃ k : Nat, k ≤ (la - f + 1).toNat ∧ ri = .int .i64 (f + k) ∧ Hid (Own wr w1.heap.size 3 1 e64 ro (spanL f k)) ∧ Hid (Ext w1 wr)) (fun _ ri _ => (la + 1 - intOf ri).toNat)
    case atStart => exact ⟨0, by omega, by simp, hide (Own.nil _ _ _ _ _), hide (Ext.refl _)⟩
    case round =>
      obtain ⟨k, hk, rfl, HO, HX⟩ := hrel
      by_cases hlt : f + (k : Int) ≤ la
      · have A7 := hide (At.one64 wr (f + (k : Int)))
        have O7 := hide (HO.out.ext (Ext.alloc wr (.cells #[.int .i64 (f + (k : Int))] 3)))
        have E7 := hide (ext_alloc HX.out (.cells #[.int .i64 (f + (k : Int))] 3))
        have z7 := E7.out.size
        have hl7 : Hid ((spanL f k).length = k) := hide (length_spanL f k)
        have hs7 : Hid (spanL f k ++ [f + (k : Int)] = spanL f (k + 1)) := hide (spanL_succ f k)
        clear HO HX
        go_wp2_with (at_builtin; refine wpList_append_at _ rfl (.tmp 75) (.tmp 77) 34 rfl w1.heap.size 3 i0 _ 8 Try.underlying34 hi0 hz0 hz1 hz2 rfl (by omega) len_e64 one_e64 _ (spanL f k) rfl O7.out (some ⟨wr.heap.size, 0, none⟩) 1 1 [f + (k : Int)] rfl A7.out ?d1 ?d2 ?d3 ?_)
        case d1 => rw [hl7.out]; unfold maxLen; omega
        case d2 => rw [hl7.out]; omega
        case d3 => exact z7
        intro v8 w8 o8 g8 _ _
        rw [hs7.out] at o8
        have O8 := hide o8
        have E8 : Hid (Ext w1 w8) := hide (O7.out.below E7.out g8 (Nat.le_refl _))
        clear o8 g8 O7 E7 z7 A7
        go_wp2
        go_roundw
        case rel =>
          first
            | exact ⟨k + 1, by omega, int_val (by omega), O8.out, E8.out⟩
            | ((repeat apply Exists.intro); exact ⟨⟨k + 1, by omega, int_val (by omega), O8.out, E8.out⟩, rfl⟩)
        case measure => simp [intOf]; omega
      · have hkk : k = (la - f + 1).toNat := by omega
        have HK := hide hkk
        clear hkk
        obtain ⟨A9, c9, hv9, a9⟩ := HO.out.at_ len_e64
        rw [hv9]
        have hl9 := length_spanL f k
        have HV := hide a9
        have HL := hide hl9
        clear hv9 a9 hl9 HO
        go_wp2
        go_ret2
        exact ⟨_, _, _, rfl, by rw [← HK.out]; exact HV.out, Ext.trans X1.out HX.out⟩
end Go.Proofs.Ytifmgngmkajahaa
