/- Walks: Expand of the program and of the document. Conditions as stated. -/
import Derived.Test.YtkdmfkpkelnheaaTbyA
import Derived.Test.YtkdmfkpkelnheaaLstB
import Derived.Test.YtkdmfkpkelnheaaTbyP
import Derived.Test.YtkdmfkpkelnheaaTabC
import Derived.Test.YtkdmfkpkelnheaaTabS
import Derived.Test.YtkdmfkpkelnheaaRtA
import Derived.Test.YtkdmfkpkelnheaaHeldV
import Derived.Test.YtkdmfkpkelnheaaSmpB
import Derived.Test.YtkdmfkpkelnheaaBase
import Derived.Lib.MinMax
namespace Go.Proofs.Ytkdmfkpkelnheaa
open Go.RowKit
/-- The numbers of runs, one by one. -/
def valsR (l : List (Int × Int)) : List Int := l.flatMap fun r => List.replicate r.1.toNat r.2
theorem valsR_take {l : List (Int × Int)} {k : Nat} (h : k < l.length) : valsR (l.take (k + 1)) = valsR (l.take k) ++ List.replicate (l.getD k (0, 0)).1.toNat (l.getD k (0, 0)).2 := by
  unfold valsR; rw [getD_take l k (0, 0) h, List.flatMap_append]; simp
theorem rep_succ (j : Nat) (y : Int) (a : List Int) : a ++ List.replicate (j + 1) y = a ++ List.replicate j y ++ [y] := by
  rw [List.replicate_succ', List.append_assoc]
set_option linter.unusedVariables false in
set_option maxRecDepth 100000 in
set_option maxHeartbeats 4000000 in
theorem refValues_any {A : Option Addr} {n c : Nat} {l : List (Int × Int)} {w : World} (h : At w 2 e2 A n c l) (hn : n ≤ 1000000) (hc : ∀ k, k < n → 0 ≤ (l.getD k (0, 0)).1 ∧ (l.getD k (0, 0)).1 ≤ 1000000) (hb : ∀ k, k ≤ n → (valsR (l.take k)).length ≤ 1000000) :
    Calls Try.prog 47 #[.slice A n c] w fun e w' => ∃ v, e = .returned v ∧ Own w' w.heap.size 3 1 e64 v (valsR l) ∧ Ext w w' := by
  have H := hide h
  have HL := hide h.len
  have HCB := hide hc
  have HVB := hide hb
  obtain ⟨i0_, hi0, hz0, hz1, hz2⟩ := info_parts Try.info3
  clear h hc hb
  go_enter Try.func47, Try.ntmps47
  go_wp2_with fail
  go_loopw [3, 4] (fun r3 ri wr => ∃ k : Nat, k ≤ n ∧ ri = .int .i64 k ∧ Hid (Own wr w.heap.size 3 1 e64 r3 (valsR (l.take k))) ∧ Hid (Ext w wr)) (fun _ ri _ => n - (intOf ri).toNat)
  case atStart => exact ⟨0, by omega, rfl, hide (by simpa [valsR] using Own.nil _ _ _ _ _), hide (Ext.refl _)⟩
  case round =>
    obtain ⟨k, hk, rfl, HO, HX⟩ := hrel
    by_cases hlt : k < n
    · obtain ⟨b, off, rfl, _⟩ := H.out.addr (by omega)
      have HPR := hide (fun (W : World) (hW : Ext w W) => (H.out.ext hW).pair hlt)
      have HSU := hide (valsR_take (l := l) (k := k) (by have := HL.out; omega))
      obtain ⟨hx0, hx1⟩ := HCB.out k hlt
      have hv1 := HVB.out (k + 1) hlt
      rw [HSU.out, List.length_append, List.length_replicate] at hv1
      generalize (l.getD k (0, 0)).1 = x at *
      generalize (l.getD k (0, 0)).2 = y at *
      obtain ⟨m, rfl⟩ : ∃ m : Nat, x = (m : Int) := ⟨x.toNat, by omega⟩
      rw [Int.toNat_natCast] at HSU hv1
      obtain ⟨acc, hacc⟩ : ∃ a, a = valsR (l.take k) := ⟨_, rfl⟩
      rw [← hacc] at HSU HO hv1
      have i1 : (k : Int) < (n : Int) := by omega
      have i0 : (0 : Int) ≤ (k : Int) := by omega
      have i8 : IntKind.i64.wrap ((k : Int) + 1) = (k : Int) + 1 := by rw [IntKind.wrap_i64]; omega
      clear hacc
      go_wp2_with fail
      go_loopw [3, 5] (fun r3 rj wi => ∃ j : Nat, j ≤ m ∧ rj = .int .i64 j ∧ Hid (Own wi w.heap.size 3 1 e64 r3 (acc ++ List.replicate j y)) ∧ Hid (Ext w wi)) (fun _ rj _ => m - (intOf rj).toNat)
      case atStart => exact ⟨0, by omega, rfl, hide (by simpa using HO.out), HX⟩
      case round =>
        clear HO HX
        obtain ⟨j, hj, rfl, HO, HX⟩ := hrel
        obtain ⟨a0, a1⟩ := HPR.out _ HX.out
        by_cases hjm : j < m
        · have j1 : (j : Int) < (m : Int) := by omega
          have j0 : (0 : Int) ≤ (j : Int) := by omega
          have j8 : IntKind.i64.wrap ((j : Int) + 1) = (j : Int) + 1 := by rw [IntKind.wrap_i64]; omega
          have S1 : Hid ((acc ++ List.replicate j y).length + 1 ≤ maxLen) := hide (by rw [List.length_append, List.length_replicate]; unfold maxLen; omega)
          have S2 : Hid (((acc ++ List.replicate j y).length + 1) * 8 ≤ 140737488355328) := hide (by rw [List.length_append, List.length_replicate]; omega)
          have S3 : Hid (w.heap.size ≤ (wr.alloc (.cells #[.int .i64 y] 3)).heap.size) := hide (by have := HX.out.size; rw [World.size_alloc]; omega)
          go_wp2_with (at_builtin; refine wpList_append_at _ rfl (.tmp 21) (.tmp 27) 23 rfl w.heap.size 3 i0_ _ 8 Try.underlying23 hi0 hz0 hz1 hz2 rfl (by omega) len_e64 one_e64 _ _ (by rfl) (HO.out.ext (Ext.alloc _ _)) (some ⟨wr.heap.size, 0, none⟩) 1 1 [y] (by rfl) (At.new1 wr y _ rfl _) S1.out S2.out S3.out ?_; intro v7 w7 o7 g7 _ _; have O7 := hide o7; have G7 := hide g7; clear o7 g7)
          have E7 := hide (Own.below (HO.out.ext (Ext.alloc _ _)) (Ext.trans HX.out (Ext.alloc _ _)) G7.out (Nat.le_refl _))
          exact ⟨⟨j + 1, by omega, by go_num, hide (by rw [rep_succ]; exact O7.out), E7⟩, by simp [intOf]; omega⟩
        · obtain rfl : j = m := by omega
          go_wp2_with fail
          exact ⟨⟨k + 1, by omega, by go_num, hide (by rw [HSU.out]; exact HO.out), HX⟩, by simp [intOf]; omega⟩
    · obtain rfl : k = n := by omega
      have HTK : Hid (l.take k = l) := hide (List.take_of_length_le (by have := HL.out; omega))
      go_wp2_with fail
      go_ret
      exact ⟨_, rfl, by have := HO.out; rw [HTK.out] at this; exact this, HX.out⟩
end Go.Proofs.Ytkdmfkpkelnheaa
namespace Go.Proofs.Ytkdmfkpkelnheaa
/-- The list of the first values of a rule. -/
def mapR {α : Type} (n : Nat) (f : Nat → α) : List α := (List.range n).map f
theorem mapR_len {α : Type} (n : Nat) (f : Nat → α) : (mapR n f).length = n := by simp [mapR]
theorem mapR_getD {α : Type} {n k : Nat} (f : Nat → α) (d : α) (h : k < n) : (mapR n f).getD k d = f k := by simp [mapR, List.getD, h]
theorem mapR_succ {α : Type} (n : Nat) (f : Nat → α) : mapR (n + 1) f = mapR n f ++ [f n] := by simp [mapR, List.range_succ]
theorem mapR_congr {α : Type} {n : Nat} {f g : Nat → α} (h : ∀ i, i < n → f i = g i) : mapR n f = mapR n g := by
  unfold mapR; exact List.map_congr_left (fun i hi => h i (List.mem_range.1 hi))
theorem mapR_set {α : Type} {n k : Nat} (f : Nat → α) (x : α) : (mapR n f).set k x = mapR n (fun i => if i = k then x else f i) := by
  apply List.ext_getElem (by simp [mapR])
  intro i h1 h2
  rw [List.getElem_set]
  by_cases h : k = i
  · subst h; simp [mapR]
  · rw [if_neg h]; simp only [mapR, List.getElem_map, List.getElem_range]; rw [if_neg (fun e => h e.symm)]
theorem valsR_len {least : Int} {l : List (Int × Int)} (h : runsF least l = 0) : ∀ k, k ≤ l.length → ((valsR (l.take k)).length : Int) = cntI l k
  | 0, _ => by simp [valsR, cntI]
  | k + 1, hk => by
    have ih := valsR_len h k (by omega)
    have h1 := runs_ok h k (by omega)
    rw [valsR_take (by omega), List.length_append, List.length_replicate, cntI]
    omega
theorem valsR_all {least : Int} {l : List (Int × Int)} (h : runsF least l = 0) : ((valsR l).length : Int) = cntA l := by
  have := valsR_len h l.length (Nat.le_refl _)
  rwa [List.take_length] at this
/-- How many numbers the runs from a place on have. -/
theorem valsR_split (l : List (Int × Int)) (k : Nat) : valsR l = valsR (l.take k) ++ valsR (l.drop k) := by
  unfold valsR; rw [← List.flatMap_append, List.take_append_drop]
theorem valsR_at {l : List (Int × Int)} {k j : Nat} (hk : k < l.length) (hj : (j : Int) < (l.getD k (0, 0)).1) : (valsR l).getD ((valsR (l.take k)).length + j) 0 = (l.getD k (0, 0)).2 ∧ (valsR (l.take k)).length + j < (valsR l).length := by
  have h1 := valsR_split l (k + 1)
  rw [valsR_take hk] at h1
  rw [h1]
  constructor
  · rw [List.getD_eq_getElem?_getD, List.append_assoc, List.getElem?_append_right (by omega), Nat.add_sub_cancel_left, List.getElem?_append_left (by rw [List.length_replicate]; omega), List.getElem?_replicate, if_pos (by omega)]
    rfl
  · rw [List.length_append, List.length_append, List.length_replicate]; omega
theorem valsR_bd {least : Int} {l : List (Int × Int)} (h : runsF least l = 0) (h0 : least ≤ 0) (i : Nat) : least ≤ (valsR l).getD i 0 ∧ (valsR l).getD i 0 ≤ 1000000000 := by
  by_cases hi : i < (valsR l).length
  · have hm : (valsR l).getD i 0 ∈ valsR l := by
      rw [List.getD_eq_getElem?_getD, List.getElem?_eq_getElem hi]; exact List.getElem_mem hi
    unfold valsR at hm
    obtain ⟨r, hr, hx⟩ := List.mem_flatMap.1 hm
    obtain ⟨k, hk, he⟩ := List.getElem_of_mem hr
    have h2 := runs_ok h k hk
    have h3 : l.getD k (0, 0) = r := by rw [List.getD_eq_getElem?_getD, List.getElem?_eq_getElem hk]; exact he
    rw [h3] at h2
    have h4 : (valsR l).getD i 0 = r.2 := (List.mem_replicate.1 hx).2
    rw [h4]; omega
  · rw [List.getD_eq_getElem?_getD, List.getElem?_eq_none (by omega)]
    show least ≤ 0 ∧ (0 : Int) ≤ _
    omega
/-- The time of the i-th sample. -/
def exT (t : Tab) : Nat → Int
  | 0 => t.start
  | i + 1 => exT t i + (valsR t.steps).getD i 0
theorem exT_bd {t : Tab} (h : runsF 0 t.steps = 0) : ∀ i : Nat, t.start ≤ exT t i ∧ exT t i ≤ t.start + 1000000000 * (i : Int)
  | 0 => by simp [exT]
  | i + 1 => by
    have ih := exT_bd h i
    have := valsR_bd h (Int.le_refl _) i
    rw [exT]; omega
def exSz (t : Tab) (i : Nat) : Int := t.sizes.getD (min i (t.sizes.length - 1)) 0
theorem exSz_bd {t : Tab} (h : firstF (szEl t.sizes) t.sizes.length = 0) (i : Nat) : 0 ≤ exSz t i ∧ exSz t i ≤ 100000 := by
  unfold exSz
  generalize min i (t.sizes.length - 1) = k
  by_cases hk : k < t.sizes.length
  · have := firstF_all h k hk
    unfold szEl at this
    by_cases h1 : t.sizes.getD k 0 < 0 ∨ 100000 < t.sizes.getD k 0
    · rw [if_pos h1] at this; omega
    · omega
  · rw [List.getD_eq_getElem?_getD, List.getElem?_eq_none (by omega)]
    show (0 : Int) ≤ 0 ∧ (0 : Int) ≤ _
    omega
def exSt (t : Tab) (i : Nat) : Int := (valsR t.steps).getD i 0
def exSh (t : Tab) (i : Nat) : Int := (valsR t.shifts).getD i 0
/-- Is a sample among the first keys? -/
def exKy (t : Tab) (k i : Nat) : Bool := t.nok || (t.keys.take k).contains ((i : Int) + 1)
/-- The samples while they are made: with the shifts and sizes of the first ones, and some keys. -/
def exM (t : Tab) (p q k i : Nat) : Smp := ⟨exT t i, exSt t i, if i < p then exSh t i else 0, if i < q then exSz t i else 0, exKy t k i⟩
def exN (t : Tab) : Nat := (valsR t.steps).length
/-- The samples of a table. -/
def exS (t : Tab) : List Smp := mapR (exN t) (exM t (exN t) (exN t) t.keys.length)
theorem exS_at {t : Tab} {i : Nat} (h : i < exN t) : (exS t).getD i dS = ⟨exT t i, exSt t i, exSh t i, exSz t i, exKy t t.keys.length i⟩ := by
  unfold exS; rw [mapR_getD _ _ h]; unfold exM; rw [if_pos h, if_pos h]
theorem exM_zero (t : Tab) (i : Nat) : exM t 0 0 0 i = ⟨exT t i, exSt t i, 0, 0, t.nok⟩ := by
  unfold exM exKy; simp
theorem exM_shift {t : Tab} {n p : Nat} (_hp : p < n) : (mapR n (exM t p 0 0)).set p { exM t p 0 0 p with shift := exSh t p } = mapR n (exM t (p + 1) 0 0) := by
  rw [mapR_set]
  apply mapR_congr
  intro i _
  by_cases h : i = p
  · subst h; rw [if_pos rfl]; unfold exM; simp
  · rw [if_neg h]; unfold exM
    by_cases h2 : i < p
    · simp only [if_pos h2, if_pos (show i < p + 1 by omega)]
    · simp only [if_neg h2, if_neg (show ¬ i < p + 1 by omega)]
theorem exM_size {t : Tab} {n q : Nat} (_hq : q < n) : (mapR n (exM t n q 0)).set q { exM t n q 0 q with size := exSz t q } = mapR n (exM t n (q + 1) 0) := by
  rw [mapR_set]
  apply mapR_congr
  intro i _
  by_cases h : i = q
  · subst h; rw [if_pos rfl]; unfold exM; simp
  · rw [if_neg h]; unfold exM
    by_cases h2 : i < q
    · simp only [if_pos h2, if_pos (show i < q + 1 by omega)]
    · simp only [if_neg h2, if_neg (show ¬ i < q + 1 by omega)]
theorem exKy_succ {t : Tab} {k i : Nat} (hk : k < t.keys.length) : exKy t (k + 1) i = (exKy t k i || decide (t.keys.getD k 0 = (i : Int) + 1)) := by
  unfold exKy
  rw [getD_take t.keys k 0 hk, List.contains_append, ← Bool.or_assoc]
  congr 1
  simp only [List.contains_cons, List.contains_nil, Bool.or_false]
  by_cases h : t.keys.getD k 0 = (i : Int) + 1
  · rw [h]; simp
  · rw [decide_eq_false h, beq_eq_false_iff_ne]; exact fun e => h e.symm
theorem exM_key {t : Tab} {n k m : Nat} (hk : k < t.keys.length) (hm : t.keys.getD k 0 = (m : Int) + 1) : (mapR n (exM t n n k)).set m { exM t n n k m with key := true } = mapR n (exM t n n (k + 1)) := by
  rw [mapR_set]
  apply mapR_congr
  intro i _
  by_cases h : i = m
  · subst h; rw [if_pos rfl]; unfold exM; rw [exKy_succ hk, hm]; simp
  · rw [if_neg h]; unfold exM; rw [exKy_succ hk, hm]
    have : decide ((m : Int) + 1 = (i : Int) + 1) = false := decide_eq_false (by omega)
    rw [this, Bool.or_false]
/-- The sizes of the first samples. -/
def szP (t : Tab) : Nat → Int
  | 0 => 0
  | i + 1 => szP t i + exSz t i
theorem szP_bd {t : Tab} (h : firstF (szEl t.sizes) t.sizes.length = 0) (s : Nat) : ∀ j : Nat, 0 ≤ szP t (s + j) - szP t s ∧ szP t (s + j) - szP t s ≤ 100000 * (j : Int)
  | 0 => by simp
  | j + 1 => by
    have ih := szP_bd h s j
    have := exSz_bd h (s + j)
    rw [show s + (j + 1) = s + j + 1 by omega, szP]; omega
/-- Where the first samples of a chunk lie, that begins with sample s at a place. -/
def spI (t : Tab) (p : Int) (s : Nat) : Nat → List (Int × Int)
  | 0 => []
  | j + 1 => spI t p s j ++ [(p + (szP t (s + j) - szP t s), exSz t (s + j))]
theorem spI_len (t : Tab) (p : Int) (s : Nat) : ∀ j, (spI t p s j).length = j
  | 0 => rfl
  | j + 1 => by rw [spI, List.length_append, spI_len t p s j]; rfl
/-- Where the samples of the first chunks lie. -/
def spC (t : Tab) : Nat → List (Int × Int)
  | 0 => []
  | c + 1 => spC t c ++ spI t (t.places.getD c 0) (spC t c).length (smO t.chunks ((c : Int) + 1)).toNat
theorem spC_len {t : Tab} (h : firstF (chEl t.chunks) t.chunks.length = 0) : ∀ c, ((spC t c).length : Int) = allS t.chunks c
  | 0 => rfl
  | c + 1 => by
    have ih := spC_len h c
    have := smO_bd h ((c : Int) + 1)
    rw [spC, List.length_append, spI_len, allS]; omega
theorem allS_mono {l : List (Int × Int)} (h : firstF (chEl l) l.length = 0) (a : Nat) : ∀ m : Nat, allS l a ≤ allS l (a + m)
  | 0 => Int.le_refl _
  | m + 1 => by
    have ih := allS_mono h a m
    have := smO_bd h (((a + m : Nat) : Int) + 1)
    rw [show a + (m + 1) = a + m + 1 by omega, allS]; omega
theorem spC_pre (t : Tab) (a : Nat) : ∀ m : Nat, ∃ r, spC t (a + m) = spC t a ++ r
  | 0 => ⟨[], by simp⟩
  | m + 1 => by
    obtain ⟨r, hr⟩ := spC_pre t a m
    exact ⟨_, by rw [show a + (m + 1) = a + m + 1 by omega, spC, hr, List.append_assoc]⟩
theorem spI_pre (t : Tab) (p : Int) (s a : Nat) : ∀ m : Nat, ∃ r, spI t p s (a + m) = spI t p s a ++ r
  | 0 => ⟨[], by simp⟩
  | m + 1 => by
    obtain ⟨r, hr⟩ := spI_pre t p s a m
    exact ⟨_, by rw [show a + (m + 1) = a + m + 1 by omega, spI, hr, List.append_assoc]⟩
/-- A sample that ends behind the longest file. -/
def bigS (s : Int × Int) : Bool := decide (1000000 < s.1 + s.2)
/-- One that is met on the way is among all. -/
theorem sp_met {t : Tab} {c j : Nat} (hc : c < t.places.length) (hj : (j : Int) < smO t.chunks ((c : Int) + 1)) (hb : (spC t c ++ spI t (t.places.getD c 0) (spC t c).length (j + 1)).any bigS = true) : (spC t t.places.length).any bigS = true := by
  obtain ⟨r, hr⟩ := spC_pre t (c + 1) (t.places.length - (c + 1))
  rw [show c + 1 + (t.places.length - (c + 1)) = t.places.length by omega] at hr
  obtain ⟨q, hq⟩ := spI_pre t (t.places.getD c 0) (spC t c).length (j + 1) ((smO t.chunks ((c : Int) + 1)).toNat - (j + 1))
  rw [show j + 1 + ((smO t.chunks ((c : Int) + 1)).toNat - (j + 1)) = (smO t.chunks ((c : Int) + 1)).toNat by omega] at hq
  rw [hr, spC, hq, ← List.append_assoc, List.any_append, List.any_append, hb]
  rfl
theorem any_none {l : List (Int × Int)} (h : ∀ i, i < l.length → bigS (l.getD i (0, 0)) = false) : l.any bigS = false := by
  rw [List.any_eq_false]
  intro x hx
  obtain ⟨k, hk, he⟩ := List.getElem_of_mem hx
  have := h k hk
  rw [List.getD_eq_getElem?_getD, List.getElem?_eq_getElem hk] at this
  rw [← he]
  simpa using this
theorem any_some {l : List (Int × Int)} {i : Nat} (hi : i < l.length) (h : bigS (l.getD i (0, 0)) = true) : l.any bigS = true := by
  rw [List.any_eq_true]
  refine ⟨l[i], List.getElem_mem hi, ?_⟩
  rwa [List.getD_eq_getElem?_getD, List.getElem?_eq_getElem hi] at h
def spS (t : Tab) : List (Int × Int) := spC t t.places.length
/-- The fault of Expand. -/
def expF (t : Tab) : Int := if tabF t ≠ 0 then tabF t else if (spS t).any bigS = true then 1 else 0
theorem exN_eq {t : Tab} (h : TabR1 t) : ((exN t : Nat) : Int) = cntA t.steps := valsR_all h.steps
theorem exSh_len {t : Tab} (h : TabR1 t) : (valsR t.shifts).length = exN t := by
  have h1 := valsR_all h.shifts
  have h2 := exN_eq h
  have h3 := h.same
  omega
theorem spS_len {t : Tab} (h : TabR1 t) : (spS t).length = exN t := by
  have h1 := spC_len h.chunks t.places.length
  rw [allS_sum h.chunks h.form, h.sum, ← exN_eq h] at h1
  unfold spS; omega
/-- Where a sample of a chunk stands. -/
theorem sp_lt {t : Tab} (h : TabR1 t) {c j : Nat} (hc : c < t.places.length) (hj : (j : Int) < smO t.chunks ((c : Int) + 1)) : (spC t c).length + j < exN t := by
  have h1 := spC_len h.chunks c
  have h2 := allS_mono h.chunks (c + 1) (t.places.length - (c + 1))
  rw [show c + 1 + (t.places.length - (c + 1)) = t.places.length by omega, allS_sum h.chunks h.form, h.sum, ← exN_eq h, allS] at h2
  omega
/-- The size of a sample, where each one has its own, or all have one. -/
theorem exSz_one {t : Tab} (h : t.sizes.length = 1) (i : Nat) : exSz t i = t.sizes.getD 0 0 := by unfold exSz; rw [h]; simp
theorem exSz_each {t : Tab} {i : Nat} (h : i < t.sizes.length) : exSz t i = t.sizes.getD i 0 := by unfold exSz; rw [Nat.min_eq_left (by omega)]
theorem sz_many {t : Tab} (h : TabR1 t) {i : Nat} (hi : i < exN t) : t.sizes.length = 1 ∨ t.sizes.length = exN t := by
  have h1 := h.sz
  have h2 := exN_eq h
  unfold szBad at h1
  omega
end Go.Proofs.Ytkdmfkpkelnheaa
namespace Go.Proofs.Ytkdmfkpkelnheaa
open Go.RowKit
theorem Try.info47 : (Try.prog.info? 47).map (fun i => (i.zero, i.size, i.bytes)) = some (some (.agg #[.int .i64 0, .int .i64 0]), 2, 16) := by kernel_rfl
theorem plEl_bd {l : List Int} (h : firstF (plEl l) l.length = 0) {i : Nat} (hi : i < l.length) : 0 ≤ l.getD i 0 ∧ l.getD i 0 ≤ 1000000 := by
  have := firstF_all h i hi
  unfold plEl at this
  by_cases h1 : l.getD i 0 < 0 ∨ 1000000 < l.getD i 0
  · rw [if_pos h1] at this; omega
  · omega
set_option linter.unusedVariables false in
set_option linter.unusedSimpArgs false in
set_option maxRecDepth 100000 in
set_option maxHeartbeats 8000000 in
theorem keyPlaced_any {sA : Option Addr} {sn sc : Nat} {hA : Option Addr} {hn hc : Nat} {zA : Option Addr} {zn zc : Nat} {kA : Option Addr} {kn kc : Nat} {cA : Option Addr} {cn cc : Nat} {pA : Option Addr} {pn pc : Nat} {t : Tab} {A : Option Addr} {n c : Nat} {w : World}
    (h : TabAt w sA sn sc hA hn hc zA zn zc kA kn kc cA cn cc pA pn pc t) (hl : At w 5 eSm A n c (exS t)) (hR : TabR1 t) :
    Calls Try.prog 31 #[.agg #[.int .i64 t.start, .slice sA sn sc, .slice hA hn hc, .slice zA zn zc, .slice kA kn kc, .slice cA cn cc, .slice pA pn pc], .slice A n c] w fun e w' => ∃ v, e = .returned v ∧ Own w' w.heap.size 47 2 e2 v (spS t) ∧ Ext w w' := by
  have hf := tab_few hR
  have hnn : n = exN t := by rw [← hl.len]; unfold exS; exact mapR_len _ _
  have hex := exN_eq hR
  have hfew := hR.few
  have HN : Hid (n ≤ 5000) := hide (by omega)
  have HL := hide hl
  have HC := hide h.chunks
  have HP := hide h.places
  have hcl := h.chunks.len
  have hpl := h.places.len
  have HCC : Hid (0 < pn → 0 < cn ∧ (t.chunks.getD 0 (0, 0)).1 = 1) := hide (fun h0 => by
    have h1 : 0 < t.chunks.length := Nat.pos_of_ne_zero fun hc => hR.form (.inl ⟨by omega, hc⟩)
    exact ⟨by omega, (ch_ok hR.chunks 0 h1).2.1 rfl⟩)
  have HAT := hide (fun (k run : Nat) (h1 : run < cn) (h2 : (t.chunks.getD run (0, 0)).1 ≤ (k : Int) + 1) (h3 : run + 1 < cn → (k : Int) + 1 < (t.chunks.getD (run + 1) (0, 0)).1) => (smO_at hR.chunks (k := run) (by omega) h2 (fun h4 => h3 (by omega)) : smO t.chunks ((k : Int) + 1) = (t.chunks.getD run (0, 0)).2))
  have HLT := hide (fun (k j : Nat) (h1 : k < pn) (h2 : (j : Int) < smO t.chunks ((k : Int) + 1)) => (by have := sp_lt hR (c := k) (j := j) (by omega) h2; omega : (spC t k).length + j < n))
  have HSZ := hide (fun (i : Nat) (hi : i < n) => (by rw [exS_at (by omega)] : ((exS t).getD i dS).size = exSz t i))
  have HZB := hide (szP_bd hR.sizes)
  have HEB := hide (exSz_bd hR.sizes)
  have HPB := hide (fun (k : Nat) (hk : k < pn) => plEl_bd hR.places (i := k) (by omega))
  have HMB := hide (fun (k : Nat) => smO_bd hR.chunks ((k : Int) + 1))
  have HCB := hide (fun (k : Nat) (hk : k < cn) => (ch_ok hR.chunks k (by omega)).1)
  have hpn : pn ≤ 5000 := by omega
  have hcn : cn ≤ 5000 := by omega
  have E0 := hide (Ext.alloc w (.cells #[.int .i64 t.start, .slice sA sn sc, .slice hA hn hc, .slice zA zn zc, .slice kA kn kc, .slice cA cn cc, .slice pA pn pc] 27))
  have X0 := hide (Blk.new w 27 #[.int .i64 t.start, .slice sA sn sc, .slice hA hn hc, .slice zA zn zc, .slice kA kn kc, .slice cA cn cc, .slice pA pn pc])
  obtain ⟨i0_, hi0, hz0, hz1, hz2⟩ := info_parts Try.info47
  have HPL := hide hpl
  clear h hl hR hf hex hfew hcl hpl hnn
  go_enter Try.func31, Try.ntmps31
  go_upto_region 1 with (fail)
  refine gen_wpC fun w0 h0 => ?_
  have F0 : Hid (Ext w w0) := hide (by rw [h0]; exact E0.out)
  have Y0 := hide (show Blk w0 w.heap.size 27 #[.int .i64 t.start, .slice sA sn sc, .slice hA hn hc, .slice zA zn zc, .slice kA kn kc, .slice cA cn cc, .slice pA pn pc] from by rw [h0]; exact X0.out)
  clear h0 E0 X0
  have y5 : w0.cell? ⟨w.heap.size, 5, none⟩ = some (.slice cA cn cc) := Y0.out.cell 5
  have y6 : w0.cell? ⟨w.heap.size, 6, none⟩ = some (.slice pA pn pc) := Y0.out.cell 6
  go_wp2_with fail
  go_loopw [5, 6, 13] (fun r5 r6 rk wr => ∃ (k run : Nat), k ≤ pn ∧ rk = .int .i64 k ∧ r6 = .int .i64 run ∧ Hid (0 < pn → run < cn ∧ (t.chunks.getD run (0, 0)).1 ≤ (k : Int) + 1) ∧ Hid (Own wr w0.heap.size 47 2 e2 r5 (spC t k)) ∧ Hid (Ext w0 wr)) (fun _ _ rk _ => pn - (intOf rk).toNat)
  case atStart => exact ⟨0, 0, by omega, rfl, rfl, hide (fun h1 => ⟨(HCC.out h1).1, by rw [(HCC.out h1).2]; omega⟩), hide (Own.nil _ _ _ _ _), hide (Ext.refl _)⟩
  case round =>
    obtain ⟨k, run0, hk, rfl, rfl, HI, HO, HX⟩ := hrel
    by_cases hlt : k < pn
    · obtain ⟨b, off, rfl, _⟩ := HP.out.addr (by omega)
      have a0 := ((HP.out.ext F0.out).ext HX.out).num hlt
      obtain ⟨cb, co, rfl, _⟩ := HC.out.addr (by have := (HCC.out (by omega)).1; omega)
      have u5 := HX.out.cell y5
      have hI0 := HI.out (by omega)
      have hpb := HPB.out k hlt
      have HLTk := hide (fun j => HLT.out k j hlt)
      have HSU : Hid (spC t (k + 1) = spC t k ++ spI t (t.places.getD k 0) (spC t k).length (smO t.chunks ((k : Int) + 1)).toNat) := hide rfl
      generalize t.places.getD k 0 = p at *
      obtain ⟨s, hs⟩ : ∃ s, s = (spC t k).length := ⟨_, rfl⟩
      have HSL := hide hs
      rw [← hs] at HSU HLTk
      generalize spC t k = L0 at *
      have i1 : (k : Int) < (pn : Int) := by omega
      have i0 : (0 : Int) ≤ (k : Int) := by omega
      have i8 : IntKind.i64.wrap ((k : Int) + 1) = (k : Int) + 1 := by rw [IntKind.wrap_i64]; omega
      have HX1 := HX
      have HO1 := HO
      clear hs HI HO HX HLT
      obtain ⟨wo, hwo⟩ : ∃ wo, wo = wr := ⟨_, rfl⟩
      subst hwo
      go_wp2_with fail
      go_loopw [6] (fun r6 wi => ∃ run : Nat, r6 = .int .i64 run ∧ Hid (run < cn ∧ (t.chunks.getD run (0, 0)).1 ≤ (k : Int) + 1) ∧ Hid (Ext wo wi)) (fun r6 _ => cn - (intOf r6).toNat)
      case atStart => exact ⟨run0, rfl, hide hI0, hide (Ext.refl _)⟩
      case round =>
        obtain ⟨run, rfl, HI, HX⟩ := hrel
        have hrc := HI.out.1
        have HAX := hide (HAT.out k run hrc HI.out.2)
        have hex1 := Ext.trans HX1.out HX.out
        have hat := (HC.out.ext F0.out).ext hex1
        have v5 := hex1.cell y5
        have j8 : IntKind.i64.wrap ((run : Int) + 1) = (run : Int) + 1 := by rw [IntKind.wrap_i64]; omega
        have j0 : (0 : Int) ≤ (run : Int) := by omega
        have hcb := HCB.out
        have HCR : Hid (run + 1 < cn → ∃ z : Int, (t.chunks.getD (run + 1) (0, 0)).1 = z ∧ wr.cell? ⟨cb, co + (run + 1) * 2, none⟩ = some (.int .i64 z)) := hide (fun h1 => ⟨_, rfl, (hat.pair h1).1⟩)
        have HMM := hide (HMB.out k)
        have u1 : wr.cell? ⟨cb, co + run * 2 + 1, none⟩ = some (.int .i64 (t.chunks.getD run (0, 0)).2) := (hat.pair hrc).2
        have HEX1 := hide hex1
        have HRC := hide hrc
        clear hat hex1 hcb
        go_upto_region 6 with (fail)
        go_cut [35] (fun s wx => ∃ go : Bool, s = .bool go ∧ Hid (go = decide (run + 1 < cn ∧ (t.chunks.getD (run + 1) (0, 0)).1 ≤ (k : Int) + 1)) ∧ wr = wx)
        case first =>
          by_cases h1 : run + 1 < cn
          · obtain ⟨z, hz, c0⟩ := HCR.out h1
            have j1 : (run : Int) + 1 < (cn : Int) := by omega
            have j2 : ((run : Int) + 1).toNat = run + 1 := by omega
            have j3 : (0 : Int) ≤ (run : Int) + 1 := by omega
            by_cases h2 : z ≤ (k : Int) + 1
            · have GG : Hid (true = decide (run + 1 < cn ∧ (t.chunks.getD (run + 1) (0, 0)).1 ≤ (k : Int) + 1)) := hide (by rw [hz]; simp [h1, h2])
              clear hz
              go_wp2_with fail
              go_meet
              exact ⟨_, rfl, GG, rfl⟩
            · have GG : Hid (false = decide (run + 1 < cn ∧ (t.chunks.getD (run + 1) (0, 0)).1 ≤ (k : Int) + 1)) := hide (by rw [hz]; simp [h2])
              clear hz
              go_wp2_with fail
              go_meet
              exact ⟨_, rfl, GG, rfl⟩
          · have j1 : ¬ (run : Int) + 1 < (cn : Int) := by omega
            have GG : Hid (false = decide (run + 1 < cn ∧ (t.chunks.getD (run + 1) (0, 0)).1 ≤ (k : Int) + 1)) := hide (by simp [h1])
            go_wp2_with fail
            go_meet
            exact ⟨_, rfl, GG, rfl⟩
        case rest =>
        obtain ⟨go, rfl, HGO, rfl⟩ := hcut
        cases go with
        | true =>
          have h1 := of_decide_eq_true HGO.out.symm
          have HI2 := hide h1
          have hm1 : cn - (run + 1) < cn - run := by omega
          clear h1 HAX HCR
          go_wp2_with fail
          exact ⟨⟨run + 1, by go_num, HI2, HX⟩, by simp [intOf]; omega⟩
        | false =>
          have h1 := of_decide_eq_false HGO.out.symm
          have HSM := hide (HAX.out (fun h2 => by
            by_cases h3 : (t.chunks.getD (run + 1) (0, 0)).1 ≤ (k : Int) + 1
            · exact absurd ⟨h2, h3⟩ h1
            · omega))
          have HRI : Hid (run < cn ∧ (t.chunks.getD run (0, 0)).1 ≤ (k : Int) + 1 + 1) := hide ⟨HI.out.1, by have := HI.out.2; omega⟩
          rw [← HSM.out] at u1
          obtain ⟨m, hm⟩ : ∃ m : Nat, smO t.chunks ((k : Int) + 1) = (m : Int) := ⟨(smO t.chunks ((k : Int) + 1)).toNat, by have := HMM.out; omega⟩
          have hmm := HMM.out
          rw [hm] at u1 hmm HLTk HSU
          rw [Int.toNat_natCast] at HSU
          have HOX := hide (HO1.out.ext HX.out)
          have hk5 : (k : Int) ≤ 5000 := by omega
          clear h1 HAX HCR HGO HI HO1 HSM HMM hm
          obtain ⟨w2, hw2⟩ : ∃ w2, w2 = wr := ⟨_, rfl⟩
          subst hw2
          go_wp2_with fail
          go_loopw [5, 8, 44] (fun r5 r8 rj wi => ∃ j : Nat, j ≤ m ∧ rj = .int .i64 j ∧ r8 = .int .i64 (p + (szP t (s + j) - szP t s)) ∧ Hid (Own wi w0.heap.size 47 2 e2 r5 (L0 ++ spI t p s j)) ∧ Hid (Ext w0 wi)) (fun _ _ rj _ => m - (intOf rj).toNat)
          case atStart => exact ⟨0, by omega, rfl, by simp, hide (by simpa [spI] using HOX.out), HEX1⟩
          case round =>
            obtain ⟨j, hj, rfl, rfl, HO, HY⟩ := hrel
            by_cases hjm : j < m
            · have hsn := HLTk.out j (by omega)
              obtain ⟨lb, lo, rfl, _⟩ := HL.out.addr (by omega)
              have c3 := ((HL.out.ext F0.out).ext HY.out).cellK hsn dS 3 _ rfl
              rw [HSZ.out _ hsn] at c3
              have hll : (L0 ++ spI t p s j).length = s + j := by rw [List.length_append, spI_len, ← HSL.out]
              obtain ⟨A5, c5, hv5, _⟩ := HO.out.at_ len_e2
              rw [hll] at hv5
              subst hv5
              have hzb := HZB.out s j
              have heb := HEB.out (s + j)
              have HPJ : Hid (spI t p s (j + 1) = spI t p s j ++ [(p + (szP t (s + j) - szP t s), exSz t (s + j))]) := hide rfl
              have HPZ : Hid (szP t (s + (j + 1)) = szP t (s + j) + exSz t (s + j)) := hide rfl
              have S1 : Hid ((L0 ++ spI t p s j).length + 1 ≤ maxLen) := hide (by rw [hll]; have := HN.out; unfold maxLen; omega)
              have S2 : Hid (((L0 ++ spI t p s j).length + 1) * 16 ≤ 140737488355328) := hide (by rw [hll]; have := HN.out; omega)
              generalize spI t p s j = L1 at *
              generalize exSz t (s + j) = y at *
              obtain ⟨x, hx⟩ : ∃ x, x = p + (szP t (s + j) - szP t s) := ⟨_, rfl⟩
              rw [← hx] at HPJ ⊢
              have HXE := hide hx
              have hxb : 0 ≤ x ∧ x ≤ 1000000 + 100000 * 1000 := by omega
              clear hx hzb
              obtain ⟨q, hq⟩ : ∃ q, q = s + j := ⟨_, rfl⟩
              rw [← hq] at hll HPZ hsn c3 HO ⊢
              have hq2 := HN.out
              have S3 : Hid (w0.heap.size ≤ (wr.alloc (.cells #[.int .i64 x, .int .i64 y] 47)).heap.size) := hide (by have h2 := HY.out.size; rw [World.size_alloc]; omega)
              have j1 : (j : Int) < (m : Int) := by omega
              have j0 : (0 : Int) ≤ (j : Int) := by omega
              have j8 : IntKind.i64.wrap ((j : Int) + 1) = (j : Int) + 1 := by rw [IntKind.wrap_i64]; omega
              have j9 : IntKind.i64.wrap (x + y) = x + y := by rw [IntKind.wrap_i64]; omega
              have q1 : (q : Int) < (n : Int) := by omega
              have q0 : (0 : Int) ≤ (q : Int) := by omega
              have HQ := hide hq
              clear hq hll
              go_wp2_with (at_builtin; refine wpList_append_at _ rfl (.tmp 52) (.tmp 56) 35 rfl w0.heap.size 47 i0_ _ 16 Try.underlying35 hi0 hz0 hz1 hz2 rfl (by omega) len_e2 one_e2 _ _ (by rfl) (HO.out.ext (Ext.alloc _ _)) (some ⟨wr.heap.size, 0, none⟩) 1 1 [(x, y)] (by rfl) (At.pair1 wr x y _) S1.out S2.out S3.out ?_; intro v7 w7 o7 g7 _ _; have O7 := hide o7; have G7 := hide g7; clear o7 g7)
              have E7 := hide (Own.below (HO.out.ext (Ext.alloc _ _)) (Ext.trans HY.out (Ext.alloc _ _)) G7.out (Nat.le_refl _))
              exact ⟨⟨j + 1, by omega, by go_num, int_val (by rw [HPZ.out]; have h9 := HXE.out; rw [← HQ.out] at h9; omega), hide (by rw [HPJ.out, ← List.append_assoc]; exact O7.out), hide E7⟩, by simp [intOf]; omega⟩
            · obtain rfl : j = m := by omega
              clear hjm hj
              go_wp2_with fail
              exact ⟨⟨k + 1, run, by omega, by go_num, rfl, hide (fun _ => by obtain ⟨h1, h2⟩ := HRI.out; exact ⟨h1, by omega⟩), hide (by rw [HSU.out]; exact HO.out), HY⟩, by simp [intOf]; omega⟩
    · obtain rfl : k = pn := by omega
      have HE : Hid (spS t = spC t k) := hide (by unfold spS; rw [HPL.out])
      clear hlt
      go_wp2_with fail
      go_ret
      exact ⟨_, rfl, by rw [HE.out]; exact HO.out.more F0.out.size, Ext.trans F0.out HX.out⟩
end Go.Proofs.Ytkdmfkpkelnheaa
namespace Go.Proofs.Ytkdmfkpkelnheaa
open Go.RowKit
theorem valsR_le (l : List (Int × Int)) (k : Nat) : (valsR (l.take k)).length ≤ (valsR l).length := by rw [valsR_split l k]; simp
def exF (t : Tab) (i : Nat) : Smp := exM t (exN t) (exN t) t.keys.length i
theorem exF_at {t : Tab} {i : Nat} (h : i < exN t) : exF t i = ⟨exT t i, exSt t i, exSh t i, exSz t i, exKy t t.keys.length i⟩ := by
  unfold exF exM; rw [if_pos h, if_pos h]
set_option linter.unusedVariables false in
set_option linter.unusedSimpArgs false in
set_option maxRecDepth 100000 in
set_option maxHeartbeats 8000000 in
theorem refExpanded_any {sA : Option Addr} {sn sc : Nat} {hA : Option Addr} {hn hc : Nat} {zA : Option Addr} {zn zc : Nat} {kA : Option Addr} {kn kc : Nat} {cA : Option Addr} {cn cc : Nat} {pA : Option Addr} {pn pc : Nat} {t : Tab} {w : World}
    (h : TabAt w sA sn sc hA hn hc zA zn zc kA kn kc cA cn cc pA pn pc t) (hR : TabR1 t) :
    Calls Try.prog 32 #[.agg #[.int .i64 t.start, .slice sA sn sc, .slice hA hn hc, .slice zA zn zc, .slice kA kn kc, .slice cA cn cc, .slice pA pn pc]] w fun e w' => ∃ v, e = .returned v ∧ Own w' w.heap.size 44 5 eSm v (exS t) ∧ Ext w w' := by
  have hf := tab_few hR
  have hex := exN_eq hR
  have hfew := hR.few
  have hsl := h.steps.len
  have hhl := h.shifts.len
  have hzl := h.sizes.len
  have hkl := h.keys.len
  have hsh := exSh_len hR
  have hst := hR.start
  have hse : (valsR t.steps).length = exN t := rfl
  have HV1 := hide (fun (W : World) (hW : Ext w W) => refValues_any (h.steps.ext hW) (by omega) (fun k hk => by have := runs_ok hR.steps k (by omega); omega) (fun k _ => by have := valsR_le t.steps k; omega))
  have HV2 := hide (fun (W : World) (hW : Ext w W) => refValues_any (h.shifts.ext hW) (by omega) (fun k hk => by have := runs_ok hR.shifts k (by omega); omega) (fun k _ => by have := valsR_le t.shifts k; omega))
  have HKA := hide h.keys
  have HZA := hide h.sizes
  have HKB := hide (fun h0 => h.keys.blk_lt len_e64 (by omega) h0)
  have HZB := hide (fun h0 => h.sizes.blk_lt len_e64 (by omega) h0)
  have HNB : kA.isNone = t.nok := by
    have h1 := h.nok
    rw [Bool.eq_iff_iff, Option.isNone_iff_eq_none, h1]
  have HTB := hide (exT_bd hR.steps)
  have HSB := hide (fun i => valsR_bd hR.steps (Int.le_refl _) i)
  have HZS := hide (fun (i : Nat) (hi : i < exN t) => sz_many hR hi)
  have HZ1 := hide (fun (h1 : zn = 1) (i : Nat) => exSz_one (t := t) (by omega) i)
  have HZE := hide (fun (i : Nat) (h1 : i < zn) => exSz_each (t := t) (i := i) (by omega))
  have hstb : -1000000000000000 ≤ t.start ∧ t.start ≤ 1000000000000000 := by
    unfold noT at hst; simp only [decide_eq_false_iff_not] at hst; omega
  have HKS := hide (fun (q i : Nat) (h1 : q < kn) => exKy_succ (t := t) (k := q) (i := i) (by omega))
  have HK0 : Hid (∀ i, exKy t 0 i = t.nok) := hide (fun i => by unfold exKy; simp)
  have HFA := hide (fun (i : Nat) (hi : i < exN t) => exF_at hi)
  have HKL := hide hkl
  have HFS : Hid (exS t = mapR (exN t) (exF t)) := hide rfl
  have HSE := hide hse
  have HSH := hide hsh
  obtain ⟨N, hN⟩ : ∃ N, exN t = N := ⟨_, rfl⟩
  rw [hN] at HZS HFA HFS HSE HSH
  have hNb : N ≤ 5000 := by omega
  have hknb : kn ≤ 5000 := by omega
  have HNN := hide hN
  clear hN hex
  have e1 := fun (W : World) => Lib.run_eql_slice_nil (P := Try.prog) W 23 3 kA kn kc 0 0 Try.underlying23
  rw [HNB] at e1
  have E0 := hide (Ext.alloc w (.cells #[.int .i64 t.start, .slice sA sn sc, .slice hA hn hc, .slice zA zn zc, .slice kA kn kc, .slice cA cn cc, .slice pA pn pc] 27))
  have X0 := hide (Blk.new w 27 #[.int .i64 t.start, .slice sA sn sc, .slice hA hn hc, .slice zA zn zc, .slice kA kn kc, .slice cA cn cc, .slice pA pn pc])
  obtain ⟨i0_, hi0, hz0, hz1, hz2⟩ := info_parts Try.info44
  clear h hR hf hfew hsl hhl hzl hsh hst hse HNB hkl
  go_enter Try.func32, Try.ntmps32
  go_upto_region 2 with (fail)
  refine gen_wpC fun w0 h0 => ?_
  have F0 : Hid (Ext w w0) := hide (by rw [h0]; exact E0.out)
  have Y0 := hide (show Blk w0 w.heap.size 27 #[.int .i64 t.start, .slice sA sn sc, .slice hA hn hc, .slice zA zn zc, .slice kA kn kc, .slice cA cn cc, .slice pA pn pc] from by rw [h0]; exact X0.out)
  clear h0 E0 X0
  have y1 : w0.cell? ⟨w.heap.size, 1, none⟩ = some (.slice sA sn sc) := Y0.out.cell 1
  have y2 : w0.cell? ⟨w.heap.size, 2, none⟩ = some (.slice hA hn hc) := Y0.out.cell 2
  refine wp_region_held_drew (S := fun W => W.cell? ⟨w.heap.size, 1, none⟩ = some (.slice sA sn sc) ∧ W.cell? ⟨w.heap.size, 2, none⟩ = some (.slice hA hn hc)) (by kernel_rfl) ⟨(Ext.drew _).cell y1, (Ext.drew _).cell y2⟩ (fun hS => ?_)
  refine held_take (i := 0) (d := 10) (oi := _) (v := ?_) rfl rfl (by kernel_rfl) (by kernel_rfl) (by kernel_rfl) (fun _ _ _ h => h) (Or.inl ⟨by rfl, ?_⟩) hS ?_
  rotate_left
  · intro W hW; obtain ⟨s1, s2⟩ := hW; first | (go_simp; done) | (go_simp; with_reducible rfl)
  try simp only [Act.put, List.setIfInBounds_toArray, List.set_cons_zero, List.set_cons_succ]
  refine held_take (i := 1) (d := 11) (oi := _) (v := ?_) rfl rfl (by kernel_rfl) (by kernel_rfl) (by kernel_rfl) (fun _ _ _ h => h) (Or.inl ⟨by rfl, ?_⟩) hS ?_
  rotate_left
  · intro W hW; obtain ⟨s1, s2⟩ := hW; first | (go_simp; done) | (go_simp; with_reducible rfl)
  try simp only [Act.put, List.setIfInBounds_toArray, List.set_cons_zero, List.set_cons_succ]
  refine held_take (i := 3) (d := 13) (oi := _) (v := ?_) rfl rfl (by kernel_rfl) (by kernel_rfl) (by kernel_rfl) (fun _ _ _ h => h) (Or.inl ⟨by rfl, ?_⟩) hS ?_
  rotate_left
  · intro W hW; obtain ⟨s1, s2⟩ := hW; first | (go_simp; done) | (go_simp; with_reducible rfl)
  try simp only [Act.put, List.setIfInBounds_toArray, List.set_cons_zero, List.set_cons_succ]
  refine held_take (i := 4) (d := 14) (oi := _) (v := ?_) rfl rfl (by kernel_rfl) (by kernel_rfl) (by kernel_rfl) (fun _ _ _ h => h) (Or.inl ⟨by rfl, ?_⟩) hS ?_
  rotate_left
  · intro W hW; obtain ⟨s1, s2⟩ := hW; first | (go_simp; done) | (go_simp; with_reducible rfl)
  try simp only [Act.put, List.setIfInBounds_toArray, List.set_cons_zero, List.set_cons_succ]
  refine wpAnyH_ready (rs := [2]) (by kernel_rfl) (by simp) (AllReadyH.cons rfl (fun K hK => ?_) AllReadyH.nil)
  go_simp
  go_at_call 47
  with_reducible refine (HV1.out _ (Ext.trans F0.out (Ext.drew _))).mono ?_
  rintro e w1 ⟨v1, rfl, o1, e1⟩
  have O1 := hide o1
  have E1 := hide (Ext.trans (Ext.drew w0) e1)
  refine hK.out _ _ ⟨e1.cell hS.1, e1.cell hS.2⟩ (fun hS => ?_)
  clear o1 e1
  clear hK K
  try simp only [Act.put, List.setIfInBounds_toArray, List.set_cons_zero, List.set_cons_succ]
  refine wpAnyH_ready (rs := [5]) (by kernel_rfl) (by simp) (AllReadyH.cons rfl (fun K hK => ?_) AllReadyH.nil)
  go_simp
  go_at_call 47
  with_reducible refine (HV2.out _ (Ext.trans F0.out E1.out)).mono ?_
  rintro e w2 ⟨v2, rfl, o2, e2⟩
  have O2 := hide o2
  have E2 := hide (Ext.trans E1.out e2)
  have O1b := hide (O1.out.ext e2)
  refine hK.out _ _ ⟨e2.cell hS.1, e2.cell hS.2⟩ (fun hS => ?_)
  clear o2 e2 O1 E1
  clear hK K
  try simp only [Act.put, List.setIfInBounds_toArray, List.set_cons_zero, List.set_cons_succ]
  refine held_take (i := 6) (d := 4) (oi := _) (v := ?_) rfl rfl (by kernel_rfl) (by kernel_rfl) (by kernel_rfl) (fun _ _ _ h => h) (Or.inl ⟨by rfl, ?_⟩) hS ?_
  rotate_left
  · intro W hW; obtain ⟨s1, s2⟩ := hW; first | (go_simp; done) | (go_simp; with_reducible rfl)
  try simp only [Act.put, List.setIfInBounds_toArray, List.set_cons_zero, List.set_cons_succ]
  refine held_take (i := 7) (d := 5) (oi := _) (v := ?_) rfl rfl (by kernel_rfl) (by kernel_rfl) (by kernel_rfl) (fun _ _ _ h => h) (Or.inl ⟨by rfl, ?_⟩) hS ?_
  rotate_left
  · intro W hW; obtain ⟨s1, s2⟩ := hW; first | (go_simp; done) | (go_simp; with_reducible rfl)
  try simp only [Act.put, List.setIfInBounds_toArray, List.set_cons_zero, List.set_cons_succ]
  refine wpAnyH_done (by kernel_rfl) ?_ _
  obtain ⟨S1, s1c, hv1, _⟩ := O1b.out.at_ len_e64
  rw [HSE.out] at hv1
  subst hv1
  obtain ⟨S2, s2c, hv2, _⟩ := O2.out.at_ len_e64
  rw [HSH.out] at hv2
  subst hv2
  have A1 := hide (O1b.out.atS len_e64)
  have A2 := hide (O2.out.atS len_e64)
  have Y2 := hide (Y0.out.ext E2.out)
  have F2 := hide (Ext.trans F0.out E2.out)
  have g0 : w2.cell? ⟨w.heap.size, 0, none⟩ = some (.int .i64 t.start) := Y2.out.cell 0
  have g3 : w2.cell? ⟨w.heap.size, 3, none⟩ = some (.slice zA zn zc) := Y2.out.cell 3
  have g4 : w2.cell? ⟨w.heap.size, 4, none⟩ = some (.slice kA kn kc) := Y2.out.cell 4
  clear y1 y2 hS O1b O2 HV1 HV2 E2 Y0 F0
  go_wp2_with fail
  go_loopw [3, 6, 7] (fun r3 r6 ri wr => ∃ i : Nat, i ≤ N ∧ ri = .int .i64 i ∧ r6 = .int .i64 (exT t i) ∧ Hid (Own wr w2.heap.size 44 5 eSm r3 (mapR i (exF t))) ∧ Hid (Ext w2 wr)) (fun _ _ ri _ => N - (intOf ri).toNat)
  case atStart => exact ⟨0, by omega, rfl, rfl, hide (Own.nil _ _ _ _ _), hide (Ext.refl _)⟩
  case round =>
    obtain ⟨i, hi, rfl, rfl, HO, HX⟩ := hrel
    obtain ⟨wo, hwo⟩ : ∃ wo, wo = wr := ⟨_, rfl⟩
    subst hwo
    by_cases hlt : i < N
    · obtain ⟨b1, o1, rfl, _⟩ := A1.out.addr (by omega)
      obtain ⟨b2, o2, rfl, _⟩ := A2.out.addr (by omega)
      have a1 := (A1.out.ext HX.out).num hlt
      have a2 := (A2.out.ext HX.out).num hlt
      have hS1 : (valsR t.steps).getD i 0 = exSt t i := rfl
      have hS2 : (valsR t.shifts).getD i 0 = exSh t i := rfl
      rw [hS1] at a1
      rw [hS2] at a2
      have tb := HTB.out i
      have sb := HSB.out i
      rw [hS1] at sb
      have HTS : Hid (exT t (i + 1) = exT t i + exSt t i) := hide rfl
      have HFI := hide (HFA.out i hlt)
      have HMS : Hid (mapR (i + 1) (exF t) = mapR i (exF t) ++ [exF t i]) := hide (mapR_succ _ _)
      have hml : (mapR i (exF t)).length ≤ 5000 := by rw [mapR_len]; omega
      have Q1 : Hid ((mapR i (exF t)).length + 1 ≤ maxLen) := hide (by unfold maxLen; omega)
      have Q2 : Hid (((mapR i (exF t)).length + 1) * 40 ≤ 140737488355328) := hide (by omega)
      have ZC : Hid (zn = 1 ∧ (∃ z : Int, exSz t i = z ∧ t.sizes.getD 0 0 = z) ∨ zn ≠ 1 ∧ i < zn ∧ (∃ z : Int, exSz t i = z ∧ t.sizes.getD i 0 = z)) := hide (by
        by_cases h1 : zn = 1
        · exact .inl ⟨h1, _, rfl, (HZ1.out h1 i).symm⟩
        · have h2 := HZS.out i hlt
          have h3 : zn = t.sizes.length := HZA.out.len.symm
          have h4 : i < zn := by omega
          exact .inr ⟨h1, h4, _, rfl, (HZE.out i h4).symm⟩)
      have K0 := hide (HK0.out i)
      clear hS1 hS2 hml
      generalize exT t i = x0 at *
      have hx1 : (valsR t.steps).getD i 0 = exSt t i := rfl
      have HX1 := hide hx1
      clear hx1
      generalize exSt t i = x1 at *
      generalize exSh t i = x2 at *
      generalize mapR i (exF t) = L0 at *
      generalize t.nok = nk at *
      have u3 := HX.out.cell g3
      have u4 := HX.out.cell g4
      have i1 : (i : Int) < (N : Int) := by omega
      have i0 : (0 : Int) ≤ (i : Int) := by omega
      have i8 : IntKind.i64.wrap ((i : Int) + 1) = (i : Int) + 1 := by rw [IntKind.wrap_i64]; omega
      have i9 : IntKind.i64.wrap (x0 + x1) = x0 + x1 := by rw [IntKind.wrap_i64]; omega
      go_upto_region 7 with (fail)
      have r1 := (Ext.alloc wo (.cells #[.int .i64 0, .int .i64 0, .int .i64 0, .int .i64 0, .bool false] 44)).cell a1
      have r2 := (Ext.alloc wo (.cells #[.int .i64 0, .int .i64 0, .int .i64 0, .int .i64 0, .bool false] 44)).cell a2
      have r4 := (Ext.alloc wo (.cells #[.int .i64 0, .int .i64 0, .int .i64 0, .int .i64 0, .bool false] 44)).cell u4
      go_region
      go_upto_region 8 with (fail)
      refine gen_wpC fun w7 h7 => ?_
      obtain ⟨xb, hxb⟩ : ∃ xb, xb = wo.heap.size := ⟨_, rfl⟩
      rw [← hxb]
      have B7 : Hid (Blk w7 xb 44 #[.int .i64 x0, .int .i64 x1, .int .i64 x2, .int .i64 0, .bool nk]) := hide (by rw [h7, hxb]; exact (Blk.new _ _ _).drew)
      have E7 : Hid (Ext wo w7) := hide (by rw [h7]; exact Ext.trans (Ext.alloc _ _) (Ext.drew _))
      have HXB : Hid (xb = wo.heap.size) := hide hxb
      have hxw : w.heap.size < xb := by have h1 := F2.out.size; have h2 := HX.out.size; have h3 := cell_lt g0; have : w.heap.size < w2.heap.size := h3; omega
      clear h7 hxb r1 r2 r4 a1 a2 u3 u4
      have u3 := E7.out.cell (HX.out.cell g3)
      have x3 : w7.cell? ⟨xb, 3, none⟩ = some (.int .i64 0) := B7.out.cell 3
      have f3 := B7.out.frozen 3
      go_upto_if 40 with (fail)
      go_cut [] (fun wx => Hid (Blk wx xb 44 #[.int .i64 x0, .int .i64 x1, .int .i64 x2, .int .i64 (exSz t i), .bool nk]) ∧ Hid (Tw w7 wx xb none))
      case first =>
        rcases ZC.out with ⟨h1, z, hz, hg⟩ | ⟨h1, h2, z, hz, hg⟩
        · have d0 : ((zn : Int) == 1) = true := by rw [beq_iff_eq]; omega
          obtain ⟨zb, zo, rfl, _⟩ := HZA.out.addr (by omega)
          have c0 := (((HZA.out.ext F2.out).ext HX.out).ext E7.out).num (k := 0) (by omega)
          rw [hg] at c0
          simp only [Nat.add_zero] at c0
          have n1 : (0 : Int) < (zn : Int) := by omega
          have HZV := hide hz
          clear hz hg h1
          go_wp2_with fail
          go_meet
          exact ⟨hide (by rw [HZV.out]; exact B7.out.set_ 3 _), hide (Tw.set_ _ _ _ _ _)⟩
        · have d0 : ((zn : Int) == 1) = false := by rw [beq_eq_false_iff_ne]; omega
          obtain ⟨zb, zo, rfl, _⟩ := HZA.out.addr (by omega)
          have c0 := (((HZA.out.ext F2.out).ext HX.out).ext E7.out).num (k := i) (by omega)
          rw [hg] at c0
          have n1 : (i : Int) < (zn : Int) := by omega
          have HZV := hide hz
          clear hz hg h1 h2
          go_wp2_with fail
          go_meet
          exact ⟨hide (by rw [HZV.out]; exact B7.out.set_ 3 _), hide (Tw.set_ _ _ _ _ _)⟩
      case rest =>
      obtain ⟨B8, T8⟩ := hcut
      obtain ⟨w8, hw8⟩ : ∃ w8, w8 = wc := ⟨_, rfl⟩
      subst hw8
      clear u3 x3 f3 B7 ZC
      generalize exSz t i = x3 at *
      have HKW := hide (fun (W : World) (hT : Tw w8 W xb none) => ((((HKA.out.ext F2.out).ext HX.out).ext E7.out).twn T8.out (fun h0 a ha => by have := HKB.out h0 a ha; omega)).twn hT (fun h0 a ha => by have := HKB.out h0 a ha; omega))
      have HA1B : b1 < xb := by have h1 := A1.out.blk_lt len_e64 (by omega) (by omega) _ rfl; have h2 := HX.out.size; have h3 := HXB.out; have h4 : b1 < w2.heap.size := h1; omega
      have HAW := hide (fun (W : World) (hT : Tw w8 W xb none) => (((((A1.out.ext HX.out).ext E7.out).twn T8.out (fun h0 a ha => by injection ha with ha; subst ha; show b1 ≠ xb; omega)).twn hT (fun h0 a ha => by injection ha with ha; subst ha; show b1 ≠ xb; omega)).num hlt : W.cell? ⟨b1, o1 + i, none⟩ = some (.int .i64 ((valsR t.steps).getD i 0))))
      have HYW := hide (fun (W : World) (hT : Tw w8 W xb none) => hT.blk (T8.out.blk ((Y2.out.ext HX.out).ext E7.out) (by omega) (by simp)) (by omega) (by simp))
      have HOW := hide (fun (W : World) (hT : Tw w8 W xb none) => (((HO.out.ext E7.out).tw T8.out (fun e => by have := (HO.out.lt _ e).2; have := HXB.out; omega) (fun g _ e => by cases e)).tw hT (fun e => by have := (HO.out.lt _ e).2; have := HXB.out; omega) (fun g _ e => by cases e)))
      have HEW := hide (fun (W : World) (hT : Tw w8 W xb none) => tw_ext' (tw_ext' (Ext.trans HX.out E7.out) T8.out (by have := HXB.out; have := HX.out.size; omega)) hT (by have := HXB.out; have := HX.out.size; omega))
      have HV1 : (valsR t.steps).getD i 0 = x1 := HX1.out
      rw [HV1] at HAW
      clear HV1
      go_wp2_with fail
      go_loopw [9] (fun rq wi => ∃ q : Nat, q ≤ kn ∧ rq = .int .i64 q ∧ Hid (Blk wi xb 44 #[.int .i64 x0, .int .i64 x1, .int .i64 x2, .int .i64 x3, .bool (exKy t q i)]) ∧ Hid (Tw w8 wi xb none)) (fun rq _ => kn - (intOf rq).toNat)
      case atStart => exact ⟨0, by omega, rfl, hide (by rw [K0.out]; exact B8.out), hide (Tw.refl _ _ _)⟩
      case round =>
        obtain ⟨q, hq, rfl, HB, HT⟩ := hrel
        have v4 : wr.cell? ⟨w.heap.size, 4, none⟩ = some (.slice kA kn kc) := (HYW.out _ HT.out).cell 4
        by_cases hqk : q < kn
        · obtain ⟨kb, ko, rfl, _⟩ := HKA.out.addr (by omega)
          have c0 := (HKW.out _ HT.out).num hqk
          have HKQ := hide (HKS.out q i hqk)
          generalize t.keys.getD q 0 = K at *
          generalize exKy t q i = kv at *
          have x4 : wr.cell? ⟨xb, 4, none⟩ = some (.bool kv) := HB.out.cell 4
          have f4 := HB.out.frozen 4
          have q1 : (q : Int) < (kn : Int) := by omega
          have q0 : (0 : Int) ≤ (q : Int) := by omega
          have q8 : IntKind.i64.wrap ((q : Int) + 1) = (q : Int) + 1 := by rw [IntKind.wrap_i64]; omega
          cases kv with
          | true =>
            go_wp2_with fail
            exact ⟨⟨q + 1, by omega, by go_num, hide (by rw [HKQ.out]; exact HB.out.set_ 4 _), hide (HT.out.trans (Tw.set_ _ _ _ _ _))⟩, by simp [intOf]; omega⟩
          | false =>
            have HKR : Hid (exKy t (q + 1) i = (K == (i : Int) + 1)) := hide (by rw [HKQ.out, Bool.false_or, Bool.beq_eq_decide_eq])
            go_wp2_with fail
            exact ⟨⟨q + 1, by omega, by go_num, hide (by rw [HKR.out]; exact HB.out.set_ 4 _), hide (HT.out.trans (Tw.set_ _ _ _ _ _))⟩, by simp [intOf]; omega⟩
        · obtain rfl : q = kn := by omega
          have HFK : Hid (exF t i = ⟨x0, x1, x2, x3, exKy t q i⟩) := hide (by rw [HFI.out, HKL.out])
          generalize exKy t q i = kf at *
          have z0 : wr.cell? ⟨xb, 0, none⟩ = some (.int .i64 x0) := HB.out.cell 0
          have z1 : wr.cell? ⟨xb, 1, none⟩ = some (.int .i64 x1) := HB.out.cell 1
          have z2 : wr.cell? ⟨xb, 2, none⟩ = some (.int .i64 x2) := HB.out.cell 2
          have z3 : wr.cell? ⟨xb, 3, none⟩ = some (.int .i64 x3) := HB.out.cell 3
          have z4 : wr.cell? ⟨xb, 4, none⟩ = some (.bool kf) := HB.out.cell 4
          have a1 := HAW.out _ HT.out
          have OW := hide (HOW.out _ HT.out)
          have EW := hide (HEW.out _ HT.out)
          have Q3 : Hid (w2.heap.size ≤ (wr.alloc (.cells #[.int .i64 x0, .int .i64 x1, .int .i64 x2, .int .i64 x3, .bool kf] 44)).heap.size) := hide (by have := EW.out.size; rw [World.size_alloc]; omega)
          clear hqk hq
          go_wp2_with (at_builtin; refine wpList_append_at _ rfl (.tmp 78) (.tmp 80) 22 rfl w2.heap.size 44 i0_ _ 40 Try.underlying22 hi0 hz0 hz1 hz2 rfl (by omega) len_eSm one_eSm _ _ (by rfl) (OW.out.ext (Ext.alloc _ _)) (some ⟨wr.heap.size, 0, none⟩) 1 1 [⟨x0, x1, x2, x3, kf⟩] (by rfl) (At.newE wr _ _ _ rfl) Q1.out Q2.out Q3.out ?_; intro v7 wz o7 g7 _ _; have O7 := hide o7; have G7 := hide g7; clear o7 g7)
          have E9 := hide (Own.below (OW.out.ext (Ext.alloc _ _)) (Ext.trans EW.out (Ext.alloc _ _)) G7.out (Nat.le_refl _))
          exact ⟨⟨i + 1, by omega, by go_num, by rw [HTS.out], hide (by rw [HMS.out, HFK.out]; exact O7.out), E9⟩, by simp [intOf]; omega⟩
    · obtain rfl : i = N := by omega
      clear hlt
      go_wp2_with fail
      go_ret
      exact ⟨_, rfl, by rw [HFS.out]; exact HO.out.more F2.out.size, Ext.trans F2.out HX.out⟩
end Go.Proofs.Ytkdmfkpkelnheaa
namespace Go.Proofs.Ytkdmfkpkelnheaa
open Go.RowKit
/-- What Expand gives. -/
def EgGives (w : World) (t : Tab) (e : Ending) (w' : World) : Prop :=
  ∃ A n c B m d, e = .returned (.tuple #[.slice A n c, .slice B m d, .int .i64 (expF t)]) ∧ At w' 5 eSm A n c (if expF t = 0 then exS t else []) ∧ At w' 2 e2 B m d (if expF t = 0 then spS t else []) ∧ Ext w w'
theorem eg_bad {w w' : World} {t : Tab} {f : Int} (h : expF t = f) (hf : f ≠ 0) (he : Ext w w') : EgGives w t (.returned (.tuple #[.slice none 0 0, .slice none 0 0, .int .i64 f])) w' :=
  ⟨none, 0, 0, none, 0, 0, by rw [h], by rw [if_neg (by omega)]; exact At.nil _ _ _, by rw [if_neg (by omega)]; exact At.nil _ _ _, he⟩
theorem eg_good {w w' : World} {t : Tab} {A : Option Addr} {n c : Nat} {B : Option Addr} {m d : Nat} (h : expF t = 0) (h1 : At w' 5 eSm A n c (exS t)) (h2 : At w' 2 e2 B m d (spS t)) (he : Ext w w') : EgGives w t (.returned (.tuple #[.slice A n c, .slice B m d, .int .i64 0])) w' :=
  ⟨A, n, c, B, m, d, by rw [h], by rw [if_pos h]; exact h1, by rw [if_pos h]; exact h2, he⟩
theorem expF_tab {t : Tab} (h : tabF t ≠ 0) : expF t = tabF t := by unfold expF; rw [if_pos h]
theorem expF_big {t : Tab} (h : tabF t = 0) (h1 : (spS t).any bigS = true) : expF t = 1 := by unfold expF; rw [if_neg (by omega), if_pos h1]
theorem expF_ok {t : Tab} (h : tabF t = 0) (h1 : (spS t).any bigS = false) : expF t = 0 := by unfold expF; rw [if_neg (by omega), if_neg (by rw [h1]; simp)]
set_option linter.unusedVariables false in
set_option linter.unusedSimpArgs false in
set_option maxRecDepth 100000 in
set_option maxHeartbeats 8000000 in
theorem refExpand_any {sA : Option Addr} {sn sc : Nat} {hA : Option Addr} {hn hc : Nat} {zA : Option Addr} {zn zc : Nat} {kA : Option Addr} {kn kc : Nat} {cA : Option Addr} {cn cc : Nat} {pA : Option Addr} {pn pc : Nat} {t : Tab} {w : World}
    (h : TabAt w sA sn sc hA hn hc zA zn zc kA kn kc cA cn cc pA pn pc t) (hz : TabSz sn hn zn kn cn pn) :
    Calls Try.prog 13 #[.agg #[.int .i64 t.start, .slice sA sn sc, .slice hA hn hc, .slice zA zn zc, .slice kA kn kc, .slice cA cn cc, .slice pA pn pc]] w (EgGives w t) := by
  have E0 := hide (Ext.alloc w (.cells #[.int .i64 t.start, .slice sA sn sc, .slice hA hn hc, .slice zA zn zc, .slice kA kn kc, .slice cA cn cc, .slice pA pn pc] 27))
  have X0 := hide (Blk.new w 27 #[.int .i64 t.start, .slice sA sn sc, .slice hA hn hc, .slice zA zn zc, .slice kA kn kc, .slice cA cn cc, .slice pA pn pc])
  have HC := hide (refCheckTable_any (h.ext E0.out) rfl hz)
  by_cases hf : tabF t = 0
  case neg =>
    have HV := hide (expF_tab hf)
    have HNZ := hide hf
    have d0 : (tabF t != 0) = true := by simp [hf]
    clear h hf
    generalize tabF t = tf at *
    go_enter Try.func13, Try.ntmps13
    go_wp2_with fail
    with_reducible refine HC.out.mono ?_
    rintro e w1 ⟨rfl, e1⟩
    have E1 := hide (Ext.trans E0.out e1)
    clear e1
    go_wp2_with fail
    go_ret3
    exact eg_bad HV.out HNZ.out E1.out
  case pos =>
  have hR := tab_right hf
  have HXP := hide (fun (W : World) (hW : Ext w W) => refExpanded_any (h.ext hW) hR)
  have hfw := tab_few hR
  have hex := exN_eq hR
  have hfew := hR.few
  have hpl := h.places.len
  have hcl := h.chunks.len
  have HCH := hide h.chunks
  have HPP := hide h.places
  have HLT := hide (fun (k j : Nat) (h1 : k < pn) (h2 : (j : Int) < smO t.chunks ((k : Int) + 1)) => (sp_lt hR (c := k) (j := j) (by omega) h2 : (spC t k).length + j < exN t))
  have HSZ := hide (fun (i : Nat) (hi : i < exN t) => (by rw [exS_at hi] : ((exS t).getD i dS).size = exSz t i))
  have HZB := hide (szP_bd hR.sizes)
  have HEB := hide (exSz_bd hR.sizes)
  have HPB := hide (fun (k : Nat) (hk : k < pn) => plEl_bd hR.places (i := k) (by omega))
  have HMB := hide (fun (k : Nat) => smO_bd hR.chunks ((k : Int) + 1))
  have HBG := hide (expF_big hf)
  have HOK := hide (expF_ok hf)
  have HMET := hide (fun (k j : Nat) (h1 : k < pn) (h2 : (j : Int) < smO t.chunks ((k : Int) + 1)) h3 => (sp_met (t := t) (c := k) (j := j) (by omega) h2 h3))
  have HEL : Hid ((exS t).length = exN t) := hide (mapR_len _ _)
  have HSS : Hid (spS t = spC t pn) := hide (by unfold spS; rw [hpl])
  have hpn : pn ≤ 5000 := by omega
  have HN : Hid (exN t ≤ 5000) := hide (by omega)
  obtain ⟨i0_, hi0, hz0, hz1, hz2⟩ := info_parts Try.info47
  rw [hf] at HC
  clear h hR hfw hex hfew hpl hcl hf
  go_enter Try.func13, Try.ntmps13
  go_wp2_with fail
  with_reducible refine HC.out.mono ?_
  rintro e w1 ⟨rfl, e1⟩
  have E1 := hide (Ext.trans E0.out e1)
  have X1 := hide (X0.out.ext e1)
  clear e1 HC E0 X0
  have x0 : w1.cell? ⟨w.heap.size, 0, none⟩ = some (.int .i64 t.start) := X1.out.cell 0
  have x1 : w1.cell? ⟨w.heap.size, 1, none⟩ = some (.slice sA sn sc) := X1.out.cell 1
  have x2 : w1.cell? ⟨w.heap.size, 2, none⟩ = some (.slice hA hn hc) := X1.out.cell 2
  have x3 : w1.cell? ⟨w.heap.size, 3, none⟩ = some (.slice zA zn zc) := X1.out.cell 3
  have x4 : w1.cell? ⟨w.heap.size, 4, none⟩ = some (.slice kA kn kc) := X1.out.cell 4
  have x5 : w1.cell? ⟨w.heap.size, 5, none⟩ = some (.slice cA cn cc) := X1.out.cell 5
  have x6 : w1.cell? ⟨w.heap.size, 6, none⟩ = some (.slice pA pn pc) := X1.out.cell 6
  go_wp2_with fail
  with_reducible refine (HXP.out _ E1.out).mono ?_
  rintro e w2 ⟨v, rfl, o2, e2⟩
  obtain ⟨lA, lc, hv, _⟩ := o2.at_ len_eSm
  rw [HEL.out] at hv
  subst hv
  have AL := hide (o2.atS len_eSm)
  have E2 := hide (Ext.trans E1.out e2)
  have X2 := hide (X1.out.ext e2)
  clear o2 e2 E1 X1 x0 x1 x2 x3 x4 x5 x6 HXP HEL
  obtain ⟨N, hN⟩ : ∃ N, exN t = N := ⟨_, rfl⟩
  rw [hN] at AL HLT HSZ HN ⊢
  clear hN
  have g5 : w2.cell? ⟨w.heap.size, 5, none⟩ = some (.slice cA cn cc) := X2.out.cell 5
  have g6 : w2.cell? ⟨w.heap.size, 6, none⟩ = some (.slice pA pn pc) := X2.out.cell 6
  go_wp2_with fail
  go_loopw [7, 8] (fun r7 rk wr => ∃ k : Nat, k ≤ pn ∧ rk = .int .i64 k ∧ Hid (Own wr w2.heap.size 47 2 e2 r7 (spC t k)) ∧ Hid ((spC t k).any bigS = false) ∧ Hid (Ext w2 wr)) (fun _ rk _ => pn - (intOf rk).toNat)
  case atStart => exact ⟨0, by omega, rfl, hide (Own.nil _ _ _ _ _), hide rfl, hide (Ext.refl _)⟩
  case round =>
    obtain ⟨k, hk, rfl, HO, HNB, HX⟩ := hrel
    obtain ⟨wo, hwo⟩ : ∃ wo, wo = wr := ⟨_, rfl⟩
    subst hwo
    by_cases hlt : k < pn
    · obtain ⟨b, off, rfl, _⟩ := HPP.out.addr (by omega)
      have a0 := ((HPP.out.ext E2.out).ext HX.out).num hlt
      have u5 := HX.out.cell g5
      have u6 := HX.out.cell g6
      have hpb := HPB.out k hlt
      have HLTk := hide (fun j => HLT.out k j hlt)
      have HMETk := hide (fun j => HMET.out k j hlt)
      have HSU : Hid (spC t (k + 1) = spC t k ++ spI t (t.places.getD k 0) (spC t k).length (smO t.chunks ((k : Int) + 1)).toNat) := hide rfl
      obtain ⟨m, hm⟩ : ∃ m : Nat, smO t.chunks ((k : Int) + 1) = (m : Int) := ⟨(smO t.chunks ((k : Int) + 1)).toNat, by have := HMB.out k; omega⟩
      have hmm := HMB.out k
      have HSM := hide (fun (W : World) (hW : Ext w2 W) => samplesOf_any (ch := (k : Int) + 1) ((HCH.out.ext E2.out).ext hW))
      rw [hm] at hmm HLTk HMETk HSU HSM
      rw [Int.toNat_natCast] at HSU
      generalize t.places.getD k 0 = p at *
      obtain ⟨s, hs⟩ : ∃ s, s = (spC t k).length := ⟨_, rfl⟩
      have HSL := hide hs
      rw [← hs] at HSU HLTk HMETk
      generalize spC t k = L0 at *
      have i1 : (k : Int) < (pn : Int) := by omega
      have i0 : (0 : Int) ≤ (k : Int) := by omega
      have i8 : IntKind.i64.wrap ((k : Int) + 1) = (k : Int) + 1 := by rw [IntKind.wrap_i64]; omega
      clear hs HLT HMET hm
      go_wp2_with fail
      go_loopw [7, 9, 10] (fun r7 r9 rj wi => ∃ j : Nat, j ≤ m ∧ rj = .int .i64 j ∧ r9 = .int .i64 (p + (szP t (s + j) - szP t s)) ∧ Hid (Own wi w2.heap.size 47 2 e2 r7 (L0 ++ spI t p s j)) ∧ Hid ((L0 ++ spI t p s j).any bigS = false) ∧ Hid (Ext w2 wi)) (fun _ _ rj _ => m - (intOf rj).toNat)
      case atStart => exact ⟨0, by omega, rfl, by simp, hide (by simpa [spI] using HO.out), hide (by simpa [spI] using HNB.out), HX⟩
      case round =>
        clear HO HNB a0 u5 u6
        obtain ⟨j, hj, rfl, rfl, HO, HNB, HY⟩ := hrel
        have v5 := HY.out.cell g5
        have v6 := HY.out.cell g6
        by_cases hjm : j < m
        · have hsn := HLTk.out j (by omega)
          obtain ⟨lb, lo, rfl, _⟩ := AL.out.addr (by omega)
          have c3 := (AL.out.ext HY.out).cellK hsn dS 3 _ rfl
          rw [HSZ.out _ hsn] at c3
          have hll : (L0 ++ spI t p s j).length = s + j := by rw [List.length_append, spI_len, ← HSL.out]
          obtain ⟨A5, c5, hv5, _⟩ := HO.out.at_ len_e2
          rw [hll] at hv5
          subst hv5
          have hzb := HZB.out s j
          have heb := HEB.out (s + j)
          have HPJ : Hid (spI t p s (j + 1) = spI t p s j ++ [(p + (szP t (s + j) - szP t s), exSz t (s + j))]) := hide rfl
          have HPZ : Hid (szP t (s + (j + 1)) = szP t (s + j) + exSz t (s + j)) := hide rfl
          have S1 : Hid ((L0 ++ spI t p s j).length + 1 ≤ maxLen) := hide (by rw [hll]; have := HN.out; unfold maxLen; omega)
          have S2 : Hid (((L0 ++ spI t p s j).length + 1) * 16 ≤ 140737488355328) := hide (by rw [hll]; have := HN.out; omega)
          have HMJ := hide (HMETk.out j (by omega))
          generalize spI t p s j = L1 at *
          generalize exSz t (s + j) = y at *
          obtain ⟨x, hx⟩ : ∃ x, x = p + (szP t (s + j) - szP t s) := ⟨_, rfl⟩
          rw [← hx] at HPJ ⊢
          have HXE := hide hx
          have hxb : 0 ≤ x ∧ x ≤ 1000000 + 100000 * 1000 := by omega
          clear hx hzb
          obtain ⟨qq, hq⟩ : ∃ qq, qq = s + j := ⟨_, rfl⟩
          rw [← hq] at hll HPZ hsn c3 HO ⊢
          have hq2 := HN.out
          have S3 : Hid (w2.heap.size ≤ ((wr.alloc (.cells #[.int .i64 x, .int .i64 y] 47)).alloc (.cells #[.int .i64 x, .int .i64 y] 47)).heap.size) := hide (by have h2 := HY.out.size; rw [World.size_alloc, World.size_alloc]; omega)
          have j1 : (j : Int) < (m : Int) := by omega
          have j0 : (0 : Int) ≤ (j : Int) := by omega
          have j8 : IntKind.i64.wrap ((j : Int) + 1) = (j : Int) + 1 := by rw [IntKind.wrap_i64]; omega
          have j9 : IntKind.i64.wrap (x + y) = x + y := by rw [IntKind.wrap_i64]; omega
          have q1 : (qq : Int) < (N : Int) := by omega
          have q0 : (0 : Int) ≤ (qq : Int) := by omega
          have HQ := hide hq
          have HSW := hide (HSM.out _ HY.out)
          clear hq hll
          by_cases hbig : 1000000 < x + y
          · have HE : Hid (expF t = 1) := hide (HBG.out (HMJ.out (by rw [HPJ.out, ← List.append_assoc, List.any_append]; simp [bigS, hbig])))
            go_wp2_with fail
            with_reducible refine HSW.out.mono ?_
            rintro e w' ⟨rfl, rfl⟩
            go_wp2_with fail
            go_ret3
            exact eg_bad HE.out (by omega) (Ext.trans E2.out (Ext.trans HY.out (Ext.alloc _ _)))
          · have HNX : Hid (((L0 ++ L1) ++ [(x, y)]).any bigS = false) := hide (by rw [List.any_append, HNB.out]; simp [bigS, hbig])
            clear HMJ
            go_wp2_with fail
            with_reducible refine HSW.out.mono ?_
            rintro e w' ⟨rfl, rfl⟩
            go_wp2_with (at_builtin; go_must (refine wpList_append_at _ rfl (.tmp 54) (.tmp 56) 35 rfl w2.heap.size 47 i0_ _ 16 Try.underlying35 hi0 hz0 hz1 hz2 rfl (by omega) len_e2 one_e2 _ _ (by rfl) ((HO.out.ext (Ext.alloc _ _)).ext (Ext.alloc _ _)) (some ⟨wr.heap.size + 1, 0, none⟩) 1 1 [(x, y)] (by rfl) (by have q9 := At.pair1 (wr.alloc (.cells #[.int .i64 x, .int .i64 y] 47)) x y 47; rw [World.size_alloc] at q9; exact q9) S1.out S2.out S3.out ?_); intro v7 w7 o7 g7 _ _; have O7 := hide o7; have G7 := hide g7; clear o7 g7)
            have E7 := hide (Own.below ((HO.out.ext (Ext.alloc _ _)).ext (Ext.alloc _ _)) (Ext.trans (Ext.trans HY.out (Ext.alloc _ _)) (Ext.alloc _ _)) G7.out (Nat.le_refl _))
            exact ⟨⟨j + 1, by omega, by go_num, int_val (by rw [HPZ.out]; have h9 := HXE.out; rw [← HQ.out] at h9; omega), hide (by rw [HPJ.out, ← List.append_assoc]; exact O7.out), hide (by rw [HPJ.out, ← List.append_assoc]; exact HNX.out), hide E7⟩, by simp [intOf]; omega⟩
        · obtain rfl : j = m := by omega
          have HSW := hide (HSM.out _ HY.out)
          clear hjm hj
          go_wp2_with fail
          with_reducible refine HSW.out.mono ?_
          rintro e w' ⟨rfl, rfl⟩
          go_wp2_with fail
          exact ⟨⟨k + 1, by omega, by go_num, hide (by rw [HSU.out]; exact HO.out), hide (by rw [HSU.out]; exact HNB.out), HY⟩, by simp [intOf]; omega⟩
    · obtain rfl : k = pn := by omega
      have HE : Hid (expF t = 0) := hide (HOK.out (by rw [HSS.out]; exact HNB.out))
      have u6 := HX.out.cell g6
      obtain ⟨A5, c5, rfl, hat⟩ := HO.out.at_ len_e2
      have HAT := hide hat
      clear hlt hat
      go_wp2_with fail
      go_ret3
      exact eg_good HE.out (AL.out.ext HX.out) (by rw [HSS.out]; exact HAT.out) (Ext.trans E2.out HX.out)
end Go.Proofs.Ytkdmfkpkelnheaa
namespace Go.Proofs.Ytkdmfkpkelnheaa
open Go.RowKit
theorem flat_setF {α : Type} {enc : α → List Value} {sz : Nat} (hsz : ∀ x, (enc x).length = sz) (d : α) : ∀ (xs : List α) (k j : Nat) (x : α) (u : Value), k < xs.length → j < sz → enc x = (enc (xs.getD k d)).set j u → (xs.flatMap enc).set (k * sz + j) u = (xs.set k x).flatMap enc
  | [], k, _, _, _, hk, _, _ => absurd hk (Nat.not_lt_zero _)
  | y :: ys, 0, j, x, u, _, hj, hx => by
    have hy := hsz y
    rw [List.set_cons_zero, List.flatMap_cons, List.flatMap_cons, Nat.zero_mul, Nat.zero_add, List.set_append_left _ _ (by omega), hx]
    rfl
  | y :: ys, k + 1, j, x, u, hk, hj, hx => by
    have hy := hsz y
    rw [List.set_cons_succ, List.flatMap_cons, List.flatMap_cons, ← flat_setF hsz d ys k j x u (by simpa using hk) hj (by simpa using hx)]
    rw [List.set_append_right _ _ (by rw [hy, Nat.add_mul]; omega), hy]
    congr 2
    rw [Nat.add_mul]; omega
theorem Own.rowF {α : Type} {w : World} {base : Nat} {t : TypeId} {sz : Nat} {enc : α → List Value} {g n c : Nat} {xs : List α} (h : Own w base t sz enc (.slice (some ⟨g, 0, none⟩) n c) xs) :
    ∃ cur, Blk w g t cur ∧ n ≤ c ∧ c ≤ maxLen ∧ cur.size = c * sz ∧ xs.length = n ∧ cur.toList.take (n * sz) = xs.flatMap enc ∧ base ≤ g := by
  obtain ⟨h0, h⟩ := h
  rcases h with ⟨hv, _⟩ | ⟨g', cap, cur, hv, hb, hg, hnc, hcm, hcs, ht⟩
  · cases hv
  · injection hv with h1 h2 h3
    injection h1 with h1
    injection h1 with h1
    subst h1 h3
    exact ⟨cur, hg, by omega, hcm, hcs, h2.symm, by rw [h2]; rw [← ht], hb⟩
theorem Own.frozenF {α : Type} {w : World} {base : Nat} {t : TypeId} {sz : Nat} {enc : α → List Value} {g n c : Nat} {xs : List α} (h : Own w base t sz enc (.slice (some ⟨g, 0, none⟩) n c) xs) (i : Nat) : w.frozen? ⟨g, i, none⟩ = false := by
  obtain ⟨cur, hg, _⟩ := h.rowF
  exact hg.frozen i
theorem Own.setF {α : Type} {w : World} {base : Nat} {t : TypeId} {sz : Nat} {enc : α → List Value} {g n c : Nat} {xs : List α} (hsz : ∀ x, (enc x).length = sz) (h : Own w base t sz enc (.slice (some ⟨g, 0, none⟩) n c) xs) (d : α) (k j : Nat) (hk : k < n) (hj : j < sz) (x : α) (u : Value) (hx : enc x = (enc (xs.getD k d)).set j u) :
    Own (w.setCell ⟨g, k * sz + j, none⟩ u) base t sz enc (.slice (some ⟨g, 0, none⟩) n c) (xs.set k x) := by
  obtain ⟨cur, hg, hnc, hcm, hcs, hl, ht, hb⟩ := h.rowF
  refine ⟨by rw [flat_len hsz], .inr ⟨g, c, _, by rw [List.length_set, hl], hb, hg.set_ (k * sz + j) u, by rw [List.length_set, hl]; exact hnc, hcm, by simp [hcs], ?_⟩⟩
  rw [List.length_set, hl, Array.toList_setIfInBounds, List.take_set, ht]
  exact flat_setF hsz d xs k j x u (by omega) hj hx
end Go.Proofs.Ytkdmfkpkelnheaa
namespace Go.Proofs.Ytkdmfkpkelnheaa
open Go.RowKit
theorem ext_set {w W : World} {g i : Nat} {u : Value} (h : Ext w W) (hg : w.heap.size ≤ g) : Ext w (W.setCell ⟨g, i, none⟩ u) := tw_ext' h (Tw.set_ W g i u none) hg
/-- An own row of samples that is not empty: where it lies. -/
theorem own_where {W : World} {base : Nat} {A : Option Addr} {n c : Nat} {l : List Smp} (h : Own W base 44 5 eSm (.slice A n c) l) (hn : 0 < n) : ∃ g, A = some ⟨g, 0, none⟩ ∧ base ≤ g ∧ g < W.heap.size := by
  have hl := h.len len_eSm
  rcases h.2 with ⟨h1, h2⟩ | ⟨g, cap, cur, hv, hb, hg, _⟩
  · omega
  · injection hv with h1 _ _
    exact ⟨g, h1, hb, (h.lt g (by rw [h1]; rfl)).2⟩
theorem spI_bd {t : Tab} (h : firstF (szEl t.sizes) t.sizes.length = 0) {p : Int} (hp : 0 ≤ p ∧ p ≤ 1000000) (s : Nat) : ∀ j : Nat, j ≤ 1000 → ∀ e ∈ spI t p s j, (0 ≤ e.1 ∧ e.1 ≤ 1000000000) ∧ (0 ≤ e.2 ∧ e.2 ≤ 100000)
  | 0, _, e, he => by simp [spI] at he
  | j + 1, hj, e, he => by
    rw [spI, List.mem_append] at he
    rcases he with he | he
    · exact spI_bd h hp s j (by omega) e he
    · rw [List.mem_singleton] at he
      subst he
      have h1 := szP_bd h s j
      have h2 := exSz_bd h (s + j)
      exact ⟨by show 0 ≤ p + _ ∧ p + _ ≤ _; omega, h2⟩
theorem spC_bd {t : Tab} (h : TabR1 t) : ∀ c : Nat, c ≤ t.places.length → ∀ e ∈ spC t c, (0 ≤ e.1 ∧ e.1 ≤ 1000000000) ∧ (0 ≤ e.2 ∧ e.2 ≤ 100000)
  | 0, _, e, he => by simp [spC] at he
  | c + 1, hc, e, he => by
    rw [spC, List.mem_append] at he
    rcases he with he | he
    · exact spC_bd h c (by omega) e he
    · have h1 := smO_bd h.chunks ((c : Int) + 1)
      exact spI_bd h.sizes (plEl_bd h.places (by omega)) _ _ (by omega) e he
theorem spS_bd {t : Tab} (h : TabR1 t) {i : Nat} (hi : i < (spS t).length) : (0 ≤ ((spS t).getD i (0, 0)).1 ∧ ((spS t).getD i (0, 0)).1 ≤ 1000000000) ∧ (0 ≤ ((spS t).getD i (0, 0)).2 ∧ ((spS t).getD i (0, 0)).2 ≤ 100000) := by
  rw [List.getD_eq_getElem?_getD, List.getElem?_eq_getElem hi]
  exact spC_bd h _ (Nat.le_refl _) _ (List.getElem_mem hi)
set_option linter.unusedVariables false in
set_option linter.unusedSimpArgs false in
set_option maxRecDepth 100000 in
set_option maxHeartbeats 16000000 in
theorem keyExpand_any {sA : Option Addr} {sn sc : Nat} {hA : Option Addr} {hn hc : Nat} {zA : Option Addr} {zn zc : Nat} {kA : Option Addr} {kn kc : Nat} {cA : Option Addr} {cn cc : Nat} {pA : Option Addr} {pn pc : Nat} {t : Tab} {w : World}
    (h : TabAt w sA sn sc hA hn hc zA zn zc kA kn kc cA cn cc pA pn pc t) (hz : TabSz sn hn zn kn cn pn) :
    Calls Try.prog 12 #[.agg #[.int .i64 t.start, .slice sA sn sc, .slice hA hn hc, .slice zA zn zc, .slice kA kn kc, .slice cA cn cc, .slice pA pn pc]] w (EgGives w t) := by
  have E0 := hide (Ext.alloc w (.cells #[.int .i64 t.start, .slice sA sn sc, .slice hA hn hc, .slice zA zn zc, .slice kA kn kc, .slice cA cn cc, .slice pA pn pc] 27))
  have X0 := hide (Blk.new w 27 #[.int .i64 t.start, .slice sA sn sc, .slice hA hn hc, .slice zA zn zc, .slice kA kn kc, .slice cA cn cc, .slice pA pn pc])
  have HC := hide (checkTable_any (h.ext E0.out) rfl hz)
  by_cases hf : tabF t = 0
  case neg =>
    have HV := hide (expF_tab hf)
    have HNZ := hide hf
    have d0 : (tabF t != 0) = true := by simp [hf]
    clear h hf
    generalize tabF t = tf at *
    go_enter Try.func12, Try.ntmps12
    go_wp2_with fail
    with_reducible refine HC.out.mono ?_
    rintro e w1 ⟨rfl, e1⟩
    have E1 := hide (Ext.trans E0.out e1)
    clear e1
    go_wp2_with fail
    go_ret3
    exact eg_bad HV.out HNZ.out E1.out
  case pos =>
  have hR := tab_right hf
  have HTA := hide h
  have HRR := hide hR
  have hfw := tab_few hR
  have hex := exN_eq hR
  have hfew := hR.few
  have l1 := h.steps.len
  have l2 := h.shifts.len
  have l3 := h.sizes.len
  have l4 := h.keys.len
  have HST := hide h.steps
  have HSH := hide h.shifts
  have HZA := hide h.sizes
  have HKA := hide h.keys
  have HR1 := hide (fun (k : Nat) (hk : k < sn) => runs_ok hR.steps k (by omega))
  have HR2 := hide (fun (k : Nat) (hk : k < hn) => runs_ok hR.shifts k (by omega))
  have HV1 := hide (fun (k j : Nat) (hk : k < sn) (hj : (j : Int) < (t.steps.getD k (0, 0)).1) => (valsR_at (l := t.steps) (k := k) (j := j) (by omega) hj))
  have HV2 := hide (fun (k j : Nat) (hk : k < hn) (hj : (j : Int) < (t.shifts.getD k (0, 0)).1) => (valsR_at (l := t.shifts) (k := k) (j := j) (by omega) hj))
  have hsl := exSh_len hR
  have HTK1 := hide (fun (k : Nat) (hk : k < sn) => (valsR_take (l := t.steps) (k := k) (by omega)))
  have HTK2 := hide (fun (k : Nat) (hk : k < hn) => (valsR_take (l := t.shifts) (k := k) (by omega)))
  have HA1 : Hid ((valsR (t.steps.take sn)).length = exN t) := hide (by rw [← l1, List.take_length]; rfl)
  have HA2 : Hid ((valsR (t.shifts.take hn)).length = exN t) := hide (by rw [← l2, List.take_length]; exact hsl)
  have HNL : Hid ((valsR t.steps).length = exN t) := hide rfl
  have HNH := hide hsl
  have HTB := hide (exT_bd hR.steps)
  have HSB := hide (fun i => valsR_bd hR.steps (Int.le_refl _) i)
  have HZP : Hid (0 < exN t → 0 < zn) := hide (fun h0 => by have := sz_many hR h0; omega)
  have HKY := hide (fun (k : Nat) (hk : k < kn) => (⟨(key_at hR.keys (i := k) (by omega)).1, by have := (key_at hR.keys (i := k) (by omega)).2.1; omega⟩ : 1 ≤ t.keys.getD k 0 ∧ t.keys.getD k 0 ≤ (exN t : Int)))
  have HZI : Hid (∀ i : Nat, exSz t i = t.sizes.getD (min i (zn - 1)) 0) := hide (fun i => by unfold exSz; rw [l3])
  have HKL := hide l4
  have HNB : kA.isNone = t.nok := by
    have h1 := h.nok
    rw [Bool.eq_iff_iff, Option.isNone_iff_eq_none, h1]
  have HPLC := hide (fun (W : World) (A : Option Addr) (n c : Nat) (hW : Ext w W) (hl : At W 5 eSm A n c (exS t)) => keyPlaced_any (h.ext hW) hl hR)
  have HBG := hide (expF_big hf)
  have HOK := hide (expF_ok hf)
  have hst := hR.start
  have hstb : -1000000000000000 ≤ t.start ∧ t.start ≤ 1000000000000000 := by
    unfold noT at hst; simp only [decide_eq_false_iff_not] at hst; omega
  have HFS : Hid (exS t = mapR (exN t) (exM t (exN t) (exN t) kn)) := hide (by unfold exS; rw [l4])
  have HSPL := hide (spS_len hR)
  have HSPB := hide (fun (i : Nat) (hi : i < exN t) => (spS_bd hR (i := i) (by rw [spS_len hR]; exact hi)))
  obtain ⟨N, hN⟩ : ∃ N, exN t = N := ⟨_, rfl⟩
  rw [hN] at HA1 HA2 HNL HNH HZP HFS HSPL HKY HSPB
  have hNb : N ≤ 5000 := by omega
  have hsnb : sn ≤ 5000 ∧ hn ≤ 5000 ∧ zn ≤ 5000 ∧ kn ≤ 5000 := by omega
  have e1 := fun (W : World) => Lib.run_eql_slice_nil (P := Try.prog) W 23 3 kA kn kc 0 0 Try.underlying23
  rw [HNB] at e1
  obtain ⟨i0_, hi0, hz0, hz1, hz2⟩ := info_parts Try.info44
  rw [hf] at HC
  clear h hR hfw hex hfew l1 l2 l3 l4 hsl HNB hf hst hN
  go_enter Try.func12, Try.ntmps12
  go_wp2_with fail
  with_reducible refine HC.out.mono ?_
  rintro e w1 ⟨rfl, e1'⟩
  have E1 := hide (Ext.trans E0.out e1')
  have X1 := hide (X0.out.ext e1')
  clear e1' HC E0 X0
  have g0 : w1.cell? ⟨w.heap.size, 0, none⟩ = some (.int .i64 t.start) := X1.out.cell 0
  have g1 : w1.cell? ⟨w.heap.size, 1, none⟩ = some (.slice sA sn sc) := X1.out.cell 1
  have g2 : w1.cell? ⟨w.heap.size, 2, none⟩ = some (.slice hA hn hc) := X1.out.cell 2
  have g3 : w1.cell? ⟨w.heap.size, 3, none⟩ = some (.slice zA zn zc) := X1.out.cell 3
  have g4 : w1.cell? ⟨w.heap.size, 4, none⟩ = some (.slice kA kn kc) := X1.out.cell 4
  have g5 : w1.cell? ⟨w.heap.size, 5, none⟩ = some (.slice cA cn cc) := X1.out.cell 5
  have g6 : w1.cell? ⟨w.heap.size, 6, none⟩ = some (.slice pA pn pc) := X1.out.cell 6
  have hw1 : w.heap.size < w1.heap.size := cell_lt g0
  go_wp2_with fail
  go_loopw [6, 7, 29] (fun r6 r7 rr wr => ∃ r : Nat, r ≤ sn ∧ rr = .int .i64 r ∧ r7 = .int .i64 (exT t (valsR (t.steps.take r)).length) ∧ Hid (Own wr w1.heap.size 44 5 eSm r6 (mapR (valsR (t.steps.take r)).length (exM t 0 0 0))) ∧ Hid (Ext w1 wr)) (fun _ _ rr _ => sn - (intOf rr).toNat)
  case atStart => exact ⟨0, by omega, rfl, rfl, hide (Own.nil _ _ _ _ _), hide (Ext.refl _)⟩
  case round =>
    obtain ⟨r, hr, rfl, rfl, HO, HX⟩ := hrel
    obtain ⟨wo, hwo⟩ : ∃ wo, wo = wr := ⟨_, rfl⟩
    subst hwo
    by_cases hlt : r < sn
    · obtain ⟨b, off, rfl, _⟩ := HST.out.addr (by omega)
      obtain ⟨a0, a1⟩ := ((HST.out.ext E1.out).ext HX.out).pair hlt
      obtain ⟨hx0, hx1, hy0, hy1⟩ := HR1.out r hlt
      have HVJ := hide (fun j hj => HV1.out r j hlt hj)
      have HTJ := hide (HTK1.out r hlt)
      generalize (t.steps.getD r (0, 0)).1 = x at *
      generalize (t.steps.getD r (0, 0)).2 = y at *
      obtain ⟨m, rfl⟩ : ∃ m : Nat, x = (m : Int) := ⟨x.toNat, by omega⟩
      have HTL : Hid ((valsR (t.steps.take (r + 1))).length = (valsR (t.steps.take r)).length + m) := hide (by rw [HTJ.out, List.length_append, List.length_replicate, Int.toNat_natCast])
      obtain ⟨P, hP⟩ : ∃ P, P = (valsR (t.steps.take r)).length := ⟨_, rfl⟩
      rw [← hP] at HTL HO HVJ ⊢
      clear hP HTJ
      have i1 : (r : Int) < (sn : Int) := by omega
      have i0 : (0 : Int) ≤ (r : Int) := by omega
      have i8 : IntKind.i64.wrap ((r : Int) + 1) = (r : Int) + 1 := by rw [IntKind.wrap_i64]; omega
      go_upto_region 9 with (fail)
      refine gen_wpC fun w5 h5 => ?_
      obtain ⟨rb, hrb⟩ : ∃ rb, rb = wo.heap.size := ⟨_, rfl⟩
      rw [← hrb]
      have RB : Hid (Blk w5 rb 58 #[.int .i64 (m : Int), .int .i64 y]) := hide (by rw [h5, hrb]; exact Blk.new _ _ _)
      have E5 : Hid (Ext wo w5) := hide (by rw [h5]; exact Ext.alloc _ _)
      have HO5 := hide (HO.out.ext E5.out)
      have HX5 := hide (Ext.trans HX.out E5.out)
      have HNE := hide (fun (e : Value.ownBlock _ = some rb) => (by have := (HO.out.lt _ e).2; omega : False))
      clear h5 hrb a0 a1 HO
      have c0 : w5.cell? ⟨rb, 0, none⟩ = some (.int .i64 (m : Int)) := RB.out.cell 0
      go_wp2_with fail
      go_loopw [6, 7, 35] (fun r6 r7 rj wi => ∃ j : Nat, j ≤ m ∧ rj = .int .i64 j ∧ r7 = .int .i64 (exT t (P + j)) ∧ Hid (Own wi w1.heap.size 44 5 eSm r6 (mapR (P + j) (exM t 0 0 0))) ∧ Hid (Ext w1 wi) ∧ Hid (Blk wi rb 58 #[.int .i64 (m : Int), .int .i64 y]) ∧ Hid (r6.ownBlock = some rb → False)) (fun _ _ rj _ => m - (intOf rj).toNat)
      case atStart => exact ⟨0, by omega, rfl, rfl, HO5, HX5, RB, HNE⟩
      case round =>
        clear HO5 HX5 RB HNE c0 HX
        obtain ⟨j, hj, rfl, rfl, HO, HX, RB, HNE⟩ := hrel
        by_cases hjm : j < m
        · obtain ⟨hv, hvl⟩ := HVJ.out j (by omega)
          have hpl : P + j < N := by have := HNL.out; omega
          have tb := HTB.out (P + j)
          have sb := HSB.out (P + j)
          rw [hv] at sb
          have HTS : Hid (exT t (P + (j + 1)) = exT t (P + j) + y) := hide (by rw [← hv]; rfl)
          have HMS : Hid (mapR (P + (j + 1)) (exM t 0 0 0) = mapR (P + j) (exM t 0 0 0) ++ [⟨exT t (P + j), y, 0, 0, t.nok⟩]) := hide (by
            rw [show P + (j + 1) = P + j + 1 by omega, mapR_succ, exM_zero]
            unfold exSt; rw [hv])
          have hml : (mapR (P + j) (exM t 0 0 0)).length = P + j := mapR_len _ _
          have Q1 : Hid ((mapR (P + j) (exM t 0 0 0)).length + 1 ≤ maxLen) := hide (by rw [hml]; unfold maxLen; omega)
          have Q2 : Hid (((mapR (P + j) (exM t 0 0 0)).length + 1) * 40 ≤ 140737488355328) := hide (by rw [hml]; omega)
          clear hml hv hvl
          generalize exT t (P + j) = x0 at *
          generalize mapR (P + j) (exM t 0 0 0) = L0 at *
          generalize t.nok = nk at *
          have u4 := HX.out.cell g4
          have c1 : wr.cell? ⟨rb, 1, none⟩ = some (.int .i64 y) := RB.out.cell 1
          have j1 : (j : Int) < (m : Int) := by omega
          have j0 : (0 : Int) ≤ (j : Int) := by omega
          have j8 : IntKind.i64.wrap ((j : Int) + 1) = (j : Int) + 1 := by rw [IntKind.wrap_i64]; omega
          have j9 : IntKind.i64.wrap (x0 + y) = x0 + y := by rw [IntKind.wrap_i64]; omega
          have Q3 : Hid (w1.heap.size ≤ (wr.alloc (.cells #[.int .i64 x0, .int .i64 y, .int .i64 0, .int .i64 0, .bool nk] 44)).heap.size) := hide (by have := HX.out.size; rw [World.size_alloc]; omega)
          have HRL := RB.out.lt
          go_wp2_with (at_builtin; refine wpList_append_at _ rfl (.tmp 37) (.tmp 45) 22 rfl w1.heap.size 44 i0_ _ 40 Try.underlying22 hi0 hz0 hz1 hz2 rfl (by omega) len_eSm one_eSm _ _ (by rfl) (HO.out.ext (Ext.alloc _ _)) (some ⟨wr.heap.size, 0, none⟩) 1 1 [⟨x0, y, 0, 0, nk⟩] (by rfl) (At.newE wr _ _ _ rfl) Q1.out Q2.out Q3.out ?_; intro v7 wz o7 g7 _ r7; have O7 := hide o7; have G7 := hide g7; have RB7 := hide ((RB.out.alloc (.cells #[.int .i64 x0, .int .i64 y, .int .i64 0, .int .i64 0, .bool nk] 44)).grown g7 (fun e => HNE.out e.symm)); have d1 : wz.cell? ⟨rb, 1, none⟩ = some (.int .i64 y) := RB7.out.cell 1; have R7 := hide r7; clear o7 g7 r7)
          have E9 := hide (Own.below (HO.out.ext (Ext.alloc _ _)) (Ext.trans HX.out (Ext.alloc _ _)) G7.out (Nat.le_refl _))
          exact ⟨⟨j + 1, by omega, by go_num, by rw [HTS.out], hide (by rw [HMS.out]; exact O7.out), E9, RB7, hide (fun e => by
            rcases R7.out with h1 | h1
            · exact HNE.out (h1.symm.trans e)
            · rw [h1] at e; have := Option.some.inj e; rw [World.size_alloc] at this; omega)⟩, by simp [intOf]; omega⟩
        · obtain rfl : j = m := by omega
          clear hjm hj
          go_wp2_with fail
          exact ⟨⟨r + 1, by omega, by go_num, by rw [HTL.out], hide (by rw [HTL.out]; exact HO.out), HX⟩, by simp [intOf]; omega⟩
    · obtain rfl : r = sn := by omega
      rw [HA1.out] at HO ⊢
      obtain ⟨oA, oc, rfl, _⟩ := HO.out.at_ len_eSm
      have hln : (mapR N (exM t 0 0 0)).length = N := mapR_len _ _
      rw [hln] at HO ⊢
      obtain ⟨w2, hw2⟩ : ∃ w2, w2 = wo := ⟨_, rfl⟩
      subst hw2
      have g2' := HX.out.cell g2
      clear hlt hln hr
      go_wp2_with fail
      go_loopw [10, 56] (fun r10 rr wr => ∃ r : Nat, r ≤ hn ∧ rr = .int .i64 r ∧ r10 = .int .i64 ((valsR (t.shifts.take r)).length : Nat) ∧ Hid (Own wr w1.heap.size 44 5 eSm (.slice oA N oc) (mapR N (exM t (valsR (t.shifts.take r)).length 0 0))) ∧ Hid (Ext w1 wr)) (fun _ rr _ => hn - (intOf rr).toNat)
      case atStart => exact ⟨0, by omega, rfl, rfl, HO, HX⟩
      case round =>
        clear HO HX g2'
        obtain ⟨r, hr, rfl, rfl, HO, HX⟩ := hrel
        obtain ⟨wo, hwo⟩ : ∃ wo, wo = wr := ⟨_, rfl⟩
        subst hwo
        by_cases hlt : r < hn
        · obtain ⟨b, off, rfl, _⟩ := HSH.out.addr (by omega)
          obtain ⟨a0, a1⟩ := ((HSH.out.ext E1.out).ext HX.out).pair hlt
          obtain ⟨hx0, hx1, hy0, hy1⟩ := HR2.out r hlt
          have HVJ := hide (fun j hj => HV2.out r j hlt hj)
          have HTJ := hide (HTK2.out r hlt)
          generalize (t.shifts.getD r (0, 0)).1 = x at *
          generalize (t.shifts.getD r (0, 0)).2 = y at *
          obtain ⟨m, rfl⟩ : ∃ m : Nat, x = (m : Int) := ⟨x.toNat, by omega⟩
          have HTL : Hid ((valsR (t.shifts.take (r + 1))).length = (valsR (t.shifts.take r)).length + m) := hide (by rw [HTJ.out, List.length_append, List.length_replicate, Int.toNat_natCast])
          obtain ⟨P, hP⟩ : ∃ P, P = (valsR (t.shifts.take r)).length := ⟨_, rfl⟩
          rw [← hP] at HTL HO HVJ ⊢
          clear hP HTJ
          have i1 : (r : Int) < (hn : Int) := by omega
          have i0 : (0 : Int) ≤ (r : Int) := by omega
          have i8 : IntKind.i64.wrap ((r : Int) + 1) = (r : Int) + 1 := by rw [IntKind.wrap_i64]; omega
          go_upto_region 19 with (fail)
          refine gen_wpC fun w5 h5 => ?_
          obtain ⟨rb, hrb⟩ : ∃ rb, rb = wo.heap.size := ⟨_, rfl⟩
          rw [← hrb]
          have RB : Hid (Blk w5 rb 58 #[.int .i64 (m : Int), .int .i64 y]) := hide (by rw [h5, hrb]; exact Blk.new _ _ _)
          have E5 : Hid (Ext wo w5) := hide (by rw [h5]; exact Ext.alloc _ _)
          have HO5 := hide (HO.out.ext E5.out)
          have HX5 := hide (Ext.trans HX.out E5.out)
          have HNE := hide (fun (g : Nat) (e : oA = some ⟨g, 0, none⟩) => (by have := (HO.out.lt g (by rw [e]; rfl)).2; omega : g ≠ rb))
          clear h5 hrb a0 a1 HO
          have c0 : w5.cell? ⟨rb, 0, none⟩ = some (.int .i64 (m : Int)) := RB.out.cell 0
          go_wp2_with fail
          go_loopw [10, 62] (fun r10 rj wi => ∃ j : Nat, j ≤ m ∧ rj = .int .i64 j ∧ r10 = .int .i64 ((P + j : Nat) : Int) ∧ Hid (Own wi w1.heap.size 44 5 eSm (.slice oA N oc) (mapR N (exM t (P + j) 0 0))) ∧ Hid (Ext w1 wi) ∧ Hid (Blk wi rb 58 #[.int .i64 (m : Int), .int .i64 y])) (fun _ rj _ => m - (intOf rj).toNat)
          case atStart => exact ⟨0, by omega, rfl, rfl, HO5, HX5, RB⟩
          case round =>
            clear HO5 HX5 RB c0 HX
            obtain ⟨j, hj, rfl, rfl, HO, HX, RB⟩ := hrel
            by_cases hjm : j < m
            · obtain ⟨hv, hvl⟩ := HVJ.out j (by omega)
              have hpl : P + j < N := by have := HNH.out; omega
              obtain ⟨g, hg, hgb, hgl⟩ := own_where HO.out (by omega)
              have hgr := HNE.out g hg
              subst hg
              have hOS := HO.out.setF len_eSm dS (P + j) 2 hpl (by omega) { exM t (P + j) 0 0 (P + j) with shift := exSh t (P + j) } (.int .i64 y) (by rw [mapR_getD _ _ hpl]; unfold exSh; rw [hv]; rfl)
              rw [exM_shift hpl] at hOS
              have HOS := hide hOS
              have a2 := (HO.out.atS len_eSm).cellK hpl dS 2 _ rfl
              have f2 := HO.out.frozenF ((P + j) * 5 + 2)
              simp only [Nat.zero_add] at a2
              generalize ((mapR N (exM t (P + j) 0 0)).getD (P + j) dS).shift = old at *
              have RB7 := hide (RB.out.far (p := ⟨g, (P + j) * 5 + 2, none⟩) (Ne.symm hgr) (.int .i64 y))
              have E7 := hide (ext_set (i := (P + j) * 5 + 2) (u := .int .i64 y) HX.out hgb)
              have HPQ : Hid (P + j + 1 = P + (j + 1)) := hide (by omega)
              rw [HPQ.out] at HOS
              obtain ⟨q, hq⟩ : ∃ q, q = P + j := ⟨_, rfl⟩
              rw [← hq] at a2 f2 hpl HOS RB7 E7 ⊢
              have HQ := hide hq
              have c1 : wr.cell? ⟨rb, 1, none⟩ = some (.int .i64 y) := RB.out.cell 1
              have j1 : (j : Int) < (m : Int) := by omega
              have j0 : (0 : Int) ≤ (j : Int) := by omega
              have j8 : IntKind.i64.wrap ((j : Int) + 1) = (j : Int) + 1 := by rw [IntKind.wrap_i64]; omega
              have q1 : (q : Int) < (N : Int) := by omega
              have q0 : (0 : Int) ≤ (q : Int) := by omega
              have q8 : IntKind.i64.wrap ((q : Int) + 1) = (q : Int) + 1 := by rw [IntKind.wrap_i64]; omega
              clear hv hvl hOS hq
              go_wp2_with fail
              exact ⟨⟨j + 1, by omega, by go_num, int_val (by have := HQ.out; omega), HOS, E7, RB7⟩, by simp [intOf]; omega⟩
            · obtain rfl : j = m := by omega
              clear hjm hj
              go_wp2_with fail
              exact ⟨⟨r + 1, by omega, by go_num, by rw [HTL.out], hide (by rw [HTL.out]; exact HO.out), HX⟩, by simp [intOf]; omega⟩
        · obtain rfl : r = hn := by omega
          rw [HA2.out] at HO
          have g3' := HX.out.cell g3
          clear hlt hr
          go_wp2_with fail
          go_loopw [76] (fun ri wr => ∃ i : Nat, i ≤ N ∧ ri = .int .i64 i ∧ Hid (Own wr w1.heap.size 44 5 eSm (.slice oA N oc) (mapR N (exM t N i 0))) ∧ Hid (Ext w1 wr)) (fun ri _ => N - (intOf ri).toNat)
          case atStart => exact ⟨0, by omega, rfl, HO, HX⟩
          case round =>
            clear HO HX g3'
            obtain ⟨i, hi, rfl, HO, HX⟩ := hrel
            by_cases hlt : i < N
            · obtain ⟨g, hg, hgb, hgl⟩ := own_where HO.out (by omega)
              subst hg
              have hzp := HZP.out (by omega)
              have u3 := HX.out.cell g3
              obtain ⟨zb, zo, rfl, _⟩ := HZA.out.addr hzp
              obtain ⟨mq, hmq⟩ : ∃ mq, mq = min i (zn - 1) := ⟨_, rfl⟩
              have hmz : mq < zn := by omega
              have c0 := ((HZA.out.ext E1.out).ext HX.out).num hmz
              have hze := HZI.out i
              rw [← hmq] at hze
              rw [← hze] at c0
              have hOS := HO.out.setF len_eSm dS i 3 hlt (by omega) { exM t N i 0 i with size := exSz t i } (.int .i64 (exSz t i)) (by rw [mapR_getD _ _ hlt]; rfl)
              rw [exM_size hlt] at hOS
              have HOS := hide hOS
              have a3 := (HO.out.atS len_eSm).cellK hlt dS 3 _ rfl
              have f3 := HO.out.frozenF (i * 5 + 3)
              simp only [Nat.zero_add] at a3
              generalize ((mapR N (exM t N i 0)).getD i dS).size = old at *
              generalize exSz t i = y at *
              have E7 := hide (ext_set (i := i * 5 + 3) (u := .int .i64 y) HX.out hgb)
              obtain ⟨zm, hzm⟩ : ∃ zm, zm = zn - 1 := ⟨_, rfl⟩
              have j1 : IntKind.i64.wrap ((zn : Int) - 1) = (zm : Int) := by rw [IntKind.wrap_i64]; omega
              have j2 : min (i : Int) (zm : Int) = (mq : Int) := by omega
              have j3 : (mq : Int) < (zn : Int) := by omega
              have j4 : (0 : Int) ≤ (mq : Int) := by omega
              have i1 : (i : Int) < (N : Int) := by omega
              have i0 : (0 : Int) ≤ (i : Int) := by omega
              have i8 : IntKind.i64.wrap ((i : Int) + 1) = (i : Int) + 1 := by rw [IntKind.wrap_i64]; omega
              clear hOS hze hmq hzm hzp hmz
              go_wp2_with fail
              exact ⟨⟨i + 1, by omega, by go_num, HOS, E7⟩, by simp [intOf]; omega⟩
            · obtain rfl : i = N := by omega
              have g4' := HX.out.cell g4
              clear hlt hi
              go_wp2_with fail
              go_loopw [97] (fun ri wr => ∃ q : Nat, q ≤ kn ∧ ri = .int .i64 q ∧ Hid (Own wr w1.heap.size 44 5 eSm (.slice oA i oc) (mapR i (exM t i i q))) ∧ Hid (Ext w1 wr)) (fun ri _ => kn - (intOf ri).toNat)
              case atStart => exact ⟨0, by omega, rfl, HO, HX⟩
              case round =>
                clear HO HX g4'
                obtain ⟨q, hq, rfl, HO, HX⟩ := hrel
                by_cases hlt : q < kn
                · obtain ⟨hk1, hk2⟩ := HKY.out q hlt
                  obtain ⟨kb, ko, rfl, _⟩ := HKA.out.addr (by omega)
                  have c0 := ((HKA.out.ext E1.out).ext HX.out).num hlt
                  obtain ⟨mm, hmm⟩ : ∃ mm : Nat, t.keys.getD q 0 = (mm : Int) + 1 := ⟨(t.keys.getD q 0 - 1).toNat, by omega⟩
                  have hmi : mm < i := by omega
                  have hOX := exM_key (t := t) (n := i) (k := q) (m := mm) (by have := HKL.out; omega) hmm
                  rw [hmm] at c0
                  obtain ⟨g, hg, hgb, hgl⟩ := own_where HO.out (by omega)
                  subst hg
                  have hOS := HO.out.setF len_eSm dS mm 4 hmi (by omega) { exM t i i q mm with key := true } (.bool true) (by rw [mapR_getD _ _ hmi]; rfl)
                  rw [hOX] at hOS
                  have HOS := hide hOS
                  have a4 := (HO.out.atS len_eSm).cellK hmi dS 4 _ rfl
                  have f4 := HO.out.frozenF (mm * 5 + 4)
                  simp only [Nat.zero_add] at a4
                  generalize ((mapR i (exM t i i q)).getD mm dS).key = old at *
                  have E7 := hide (ext_set (i := mm * 5 + 4) (u := .bool true) HX.out hgb)
                  have j1 : IntKind.i64.wrap ((mm : Int) + 1 - 1) = (mm : Int) := by rw [IntKind.wrap_i64]; omega
                  have j2 : IntKind.i64.wrap (mm : Int) = (mm : Int) := by rw [IntKind.wrap_i64]; omega
                  have j3 : (mm : Int) < (i : Int) := by omega
                  have j4 : (0 : Int) ≤ (mm : Int) := by omega
                  have i1 : (q : Int) < (kn : Int) := by omega
                  have i0 : (0 : Int) ≤ (q : Int) := by omega
                  have i8 : IntKind.i64.wrap ((q : Int) + 1) = (q : Int) + 1 := by rw [IntKind.wrap_i64]; omega
                  clear hOS hOX hmm hk1 hk2
                  go_wp2_with fail
                  exact ⟨⟨q + 1, by omega, by go_num, HOS, E7⟩, by simp [intOf]; omega⟩
                · obtain rfl : q = kn := by omega
                  rw [← HFS.out] at HO
                  have HPW := hide (HPLC.out _ oA i oc (Ext.trans E1.out HX.out) (HO.out.atS len_eSm))
                  have X3 := hide (X1.out.ext HX.out)
                  obtain ⟨w3, hw3⟩ : ∃ w3, w3 = wr := ⟨_, rfl⟩
                  subst hw3
                  clear hlt hq g0 g1 g2 g3 g4 g5 g6
                  have g0 : w3.cell? ⟨w.heap.size, 0, none⟩ = some (.int .i64 t.start) := X3.out.cell 0
                  have g1 : w3.cell? ⟨w.heap.size, 1, none⟩ = some (.slice sA _ sc) := X3.out.cell 1
                  have g2 : w3.cell? ⟨w.heap.size, 2, none⟩ = some (.slice hA _ hc) := X3.out.cell 2
                  have g3 : w3.cell? ⟨w.heap.size, 3, none⟩ = some (.slice zA _ zc) := X3.out.cell 3
                  have g4 : w3.cell? ⟨w.heap.size, 4, none⟩ = some (.slice kA _ kc) := X3.out.cell 4
                  have g5 : w3.cell? ⟨w.heap.size, 5, none⟩ = some (.slice cA _ cc) := X3.out.cell 5
                  have g6 : w3.cell? ⟨w.heap.size, 6, none⟩ = some (.slice pA _ pc) := X3.out.cell 6
                  go_wp2_with fail
                  with_reducible refine HPW.out.mono ?_
                  rintro e w4 ⟨v, rfl, o4, e4⟩
                  obtain ⟨sA', sc', hv, _⟩ := o4.at_ len_e2
                  rw [HSPL.out] at hv
                  subst hv
                  have SA := hide (o4.atS len_e2)
                  have AL := hide ((HO.out.atS len_eSm).ext e4)
                  have E4 := hide (Ext.trans (Ext.trans E1.out HX.out) e4)
                  clear o4 e4 HPW HO HX g0 g1 g2 g3 g4 g5 g6 X3
                  have HBA := hide (fun (h1 : ∀ j, j < i → bigS ((spS t).getD j (0, 0)) = false) => HOK.out (any_none (fun j hj => h1 j (by rw [← HSPL.out]; exact hj))))
                  have HBB := hide (fun (j : Nat) (hj : j < i) (h1 : bigS ((spS t).getD j (0, 0)) = true) => HBG.out (any_some (i := j) (by rw [HSPL.out]; exact hj) h1))
                  go_wp2_with fail
                  go_loopw [112] (fun rk wr => ∃ k : Nat, k ≤ i ∧ rk = .int .i64 k ∧ Hid (∀ j, j < k → bigS ((spS t).getD j (0, 0)) = false) ∧ Hid (Ext w4 wr)) (fun rk _ => i - (intOf rk).toNat)
                  case atStart => exact ⟨0, by omega, rfl, hide (fun j hj => by omega), hide (Ext.refl _)⟩
                  case round =>
                    obtain ⟨k, hk, rfl, HA, HX⟩ := hrel
                    by_cases hlt : k < i
                    · obtain ⟨b, off, rfl, _⟩ := SA.out.addr (by omega)
                      obtain ⟨a0, a1⟩ := (SA.out.ext HX.out).pair hlt
                      obtain ⟨hb1, hb2⟩ := HSPB.out k hlt
                      have hbs : bigS ((spS t).getD k (0, 0)) = decide (1000000 < ((spS t).getD k (0, 0)).1 + ((spS t).getD k (0, 0)).2) := rfl
                      have HBK := hide (HBB.out k hlt)
                      have HSA : Hid (bigS ((spS t).getD k (0, 0)) = false → ∀ j, j < k + 1 → bigS ((spS t).getD j (0, 0)) = false) := hide (fun h0 j hj => by
                        rcases Nat.lt_succ_iff_lt_or_eq.1 hj with h | h
                        · exact HA.out j h
                        · rw [h]; exact h0)
                      generalize bigS ((spS t).getD k (0, 0)) = bg at *
                      generalize ((spS t).getD k (0, 0)).1 = x at *
                      generalize ((spS t).getD k (0, 0)).2 = y at *
                      have i1 : (k : Int) < (i : Int) := by omega
                      have i0 : (0 : Int) ≤ (k : Int) := by omega
                      have i8 : IntKind.i64.wrap ((k : Int) + 1) = (k : Int) + 1 := by rw [IntKind.wrap_i64]; omega
                      have i9 : IntKind.i64.wrap (x + y) = x + y := by rw [IntKind.wrap_i64]; omega
                      by_cases hbig : 1000000 < x + y
                      · have HE := hide (HBK.out (by rw [hbs]; exact decide_eq_true hbig))
                        clear hbs
                        go_wp2_with fail
                        go_ret3
                        exact eg_bad HE.out (by omega) (Ext.trans E4.out (Ext.trans HX.out (Ext.alloc _ _)))
                      · have HE := hide (HSA.out (by rw [hbs]; exact decide_eq_false hbig))
                        clear hbs
                        go_wp2_with fail
                        exact ⟨⟨k + 1, by omega, by go_num, HE, hide (Ext.trans HX.out (Ext.alloc _ _))⟩, by simp [intOf]; omega⟩
                    · obtain rfl : k = i := by omega
                      have HE := hide (HBA.out HA.out)
                      clear hlt hk
                      go_wp2_with fail
                      go_ret3
                      exact eg_good HE.out (AL.out.ext HX.out) (SA.out.ext HX.out) (Ext.trans E4.out HX.out)
end Go.Proofs.Ytkdmfkpkelnheaa
