/- Several texts in one: Plain: where the chunks of tracks lie among all bytes. Conditions as stated; Walk: runs of the program's source. Conditions as stated; Walks: addRun of the program, grown of the reference. Conditions as stated; Walks: slices.Clone, slices.Min and slices.Max of ints. Conditions as stated; Plain: the table of samples (compact). Conditions as stated. -/
import Derived.Test.YtkbmgakehlmcnaaMtq16
import Derived.Test.YtkbmgakehlmcnaaMtq22
import Derived.Test.YtkbmgakehlmcnaaMtq20
import Derived.StillTailTactics
import Derived.Test.YtkbmgakehlmcnaaMtq00
import Derived.Test.YtkbmgakehlmcnaaMtq19
namespace Go.Proofs.Ytkbmgakehlmcnaa
theorem lies_more {b l : List UInt8} {p : Nat} (m : List UInt8) (h : Lies b p l) : Lies (b ++ m) p l := by
  obtain ⟨h1, h2⟩ := h
  refine ⟨?_, by rw [List.length_append]; omega⟩
  rw [List.drop_append_of_le_length (by omega), List.take_append_of_le_length (by rw [List.length_drop]; omega)]
  exact h1
theorem lies_end (b l : List UInt8) : Lies (b ++ l) b.length l := ⟨by simp, by simp⟩
theorem lies_in {b l m : List UInt8} {p q : Nat} (h : Lies b p l) (h2 : Lies l q m) : Lies b (p + q) m := by
  obtain ⟨h1, h3⟩ := h
  obtain ⟨h4, h5⟩ := h2
  refine ⟨?_, by omega⟩
  have e : l.drop q = (b.drop (p + q)).take (l.length - q) := by
    conv => lhs; rw [← h1]
    rw [List.drop_take, List.drop_drop]
  rw [e, List.take_take, Nat.min_eq_left (by omega)] at h4
  exact h4
def cdL (T : List TrkT) (D : List (List UInt8)) (ch i j : Nat) : List UInt8 := pcB (D.getD i []) (szN ((T.getD i default).smp.take (j * ch))) (szN ((T.getD i default).smp.take (min (j * ch + ch) (T.getD i default).smp.length)))
structure LyI (T : List TrkT) (D : List (List UInt8)) (ch a : Nat) (s : LayS) (i c : Nat) : Prop where
  len : (s.pl.getD i []).length = c
  at_ : ∀ j, j < c → ∃ o : Nat, (s.pl.getD i []).getD j 0 = ((a + o : Nat) : Int) ∧ Lies s.out o (cdL T D ch i j)
section
variable {T : List TrkT} {D : List (List UInt8)} {ch a : Nat}
theorem LyI.other {s : LayS} {n i j c : Nat} (h : LyI T D ch a s j c) (hij : i ≠ j) : LyI T D ch a (layI T D ch a n i s) j c := by
  unfold layI
  split
  · exact h
  · have e : (s.pl.set i (s.pl.getD i [] ++ [((a + s.out.length : Nat) : Int)])).getD j [] = s.pl.getD j [] := by
      simp only [List.getD_eq_getElem?_getD, List.getElem?_set_ne hij]
    refine ⟨by simp only [e]; exact h.len, fun q hq => ?_⟩
    obtain ⟨o, h1, h2⟩ := h.at_ q hq
    exact ⟨o, by simp only [e]; exact h1, lies_more _ h2⟩
theorem LyI.same {s : LayS} {n i : Nat} (h : LyI T D ch a s i n) (hi : i < s.pl.length) (hn : ¬ (T.getD i default).smp.length ≤ n * ch) : LyI T D ch a (layI T D ch a n i s) i (n + 1) := by
  unfold layI
  rw [if_neg hn]
  have e : (s.pl.set i (s.pl.getD i [] ++ [((a + s.out.length : Nat) : Int)])).getD i [] = s.pl.getD i [] ++ [((a + s.out.length : Nat) : Int)] := by
    rw [List.getD_eq_getElem?_getD, List.getElem?_set_self hi, Option.getD_some]
  have hl := h.len
  refine ⟨by simp only [e, List.length_append, hl, List.length_cons, List.length_nil], fun q hq => ?_⟩
  simp only [e]
  by_cases hqn : q = n
  · subst hqn
    refine ⟨s.out.length, ?_, lies_end _ _⟩
    rw [List.getD_eq_getElem?_getD, List.getElem?_append_right (by omega), hl, Nat.sub_self]
    rfl
  · obtain ⟨o, h1, h2⟩ := h.at_ q (by omega)
    refine ⟨o, ?_, lies_more _ h2⟩
    rw [List.getD_eq_getElem?_getD, List.getElem?_append_left (by omega), ← List.getD_eq_getElem?_getD]
    exact h1
def ckI (T : List TrkT) (ch i : Nat) : Nat := ckN (T.getD i default).smp.length ch
theorem lyI_step {s : LayS} {n i : Nat} (hc : 1 ≤ ch) (h : LyI T D ch a s i (min n (ckI T ch i))) (hi : i < s.pl.length) : LyI T D ch a (layI T D ch a n i s) i (min (n + 1) (ckI T ch i)) := by
  have h1 := ckN_lt (n := (T.getD i default).smp.length) (ch := ch) (k := n) hc
  by_cases hn : (T.getD i default).smp.length ≤ n * ch
  · have h2 : ckI T ch i ≤ n := by
      unfold ckI
      have : ¬ n < ckN (T.getD i default).smp.length ch := fun h3 => by have := h1.1 h3; omega
      omega
    unfold layI
    rw [if_pos hn, Nat.min_eq_right (by omega)]
    rw [Nat.min_eq_right h2] at h
    exact h
  · have h2 : n < ckI T ch i := h1.2 (by omega)
    rw [Nat.min_eq_left (by omega)] at h ⊢
    exact h.same hi hn
theorem lyK {s : LayS} {n : Nat} (hc : 1 ≤ ch) (hl : s.pl.length = T.length) (h : ∀ i, i < T.length → LyI T D ch a s i (min n (ckI T ch i))) : ∀ k, k ≤ T.length → ∀ i, i < T.length → LyI T D ch a (layK T D ch a n s k) i (min (if i < k then n + 1 else n) (ckI T ch i))
  | 0, _, i, hi => by rw [if_neg (by omega)]; exact h i hi
  | k + 1, hk, i, hi => by
    have ih := lyK hc hl h k (by omega) i hi
    rw [layK]
    by_cases hik : k = i
    · subst hik
      rw [if_neg (by omega)] at ih
      rw [if_pos (by omega)]
      exact lyI_step hc ih (by rw [layK_len, hl]; exact hi)
    · have e : (if i < k + 1 then n + 1 else n) = (if i < k then n + 1 else n) := by
        by_cases h1 : i < k
        · rw [if_pos h1, if_pos (by omega)]
        · rw [if_neg h1, if_neg (by omega)]
      rw [e]
      exact ih.other hik
theorem lyR (hc : 1 ≤ ch) : ∀ n i, i < T.length → LyI T D ch a (layR T D ch a n) i (min n (ckI T ch i))
  | 0, i, hi => by
    rw [Nat.zero_min]
    refine ⟨?_, fun j hj => absurd hj (Nat.not_lt_zero _)⟩
    rw [layR]
    simp only [List.getD_eq_getElem?_getD, List.getElem?_replicate, hi, if_true]
    rfl
  | n + 1, i, hi => by
    have h := lyK hc (layR_len n) (lyR hc n) T.length (Nat.le_refl _) i hi
    rw [if_pos hi] at h
    exact h
theorem lyF (hc : 1 ≤ ch) (h5 : ∀ i, i < T.length → (T.getD i default).smp.length ≤ 5000) {i : Nat} (hi : i < T.length) : LyI T D ch a (layF T D ch a) i (ckI T ch i) := by
  have h := lyR (T := T) (D := D) (a := a) hc roundsN i hi
  have h1 := h5 i hi
  have h2 := ckN_le (n := (T.getD i default).smp.length) hc
  rw [Nat.min_eq_right (by unfold ckI roundsN; omega)] at h
  exact h
end
end Go.Proofs.Ytkbmgakehlmcnaa
namespace Go.Proofs.Ytkbmgakehlmcnaa
open Go.RowKit
theorem Try.info128 : (Try.prog.info? 128).map (fun i => (i.zero, i.size, i.bytes)) = some (some (.agg #[.int .i64 0, .int .i64 0]), 2, 16) := by kernel_rfl
def RnGives (w : World) (sb : Nat) (A : Option Addr) (n c : Nat) (l : List (Int × Int)) (q : Rd) (e : Ending) (w' : World) : Prop :=
  ∃ T k tc, e = .returned (.slice T k tc) ∧ At w' 2 e2 T k tc l ∧ Blk w' sb 168 (srcC A n c q) ∧ Tw w w' sb none ∧ ∀ a, T = some a → w.heap.size ≤ a.block
theorem half_lt {i k N : Nat} (hi : i = 2 * k) (h : i + 1 < N) : k + 1 ≤ N / 2 := by omega
set_option linter.unusedVariables false in
set_option maxRecDepth 100000 in
set_option maxHeartbeats 8000000 in
theorem srcRuns_any {sb : Nat} {A : Option Addr} {n c : Nat} {b : List UInt8} {s : Rd} {w : World} (hB : Blk w sb 168 (srcC A n c s)) (h : At w 1 e8 A n c b) (hne : 0 < n → ∀ a, A = some a → a.block ≠ sb) (hp : s.pos ≤ n) (hn : n ≤ 1000000) :
    Calls Try.prog 87 #[.pointer (some ⟨sb, 0, none⟩)] w (RnGives w sb A n c (prL (lsF b 2 s).1) (lsF b 2 s).2) := by
  have HLS := hide (srcList_any hB h hne hp (z := 2) (each := 2) rfl (by omega))
  have hsb := hB.lt
  have hfew := lsH_few b 2 s
  rw [h.len, ← lsF_len] at hfew
  obtain ⟨i0_, hi0, hz0, hz1, hz2⟩ := info_parts Try.info128
  clear hB h hne
  go_enter Try.func87, Try.ntmps87
  go_wp2_with fail
  with_reducible refine HLS.out.mono ?_
  rintro e w1 ⟨T, N, tc, rfl, a1, b1, t1, l1⟩
  have A1 := hide a1
  have B1 := hide b1
  have T1 := hide t1
  have L1 := hide l1
  have hNl := a1.len
  rw [hNl] at hfew
  have hsz1 := t1.size
  generalize (lsF b 2 s).2 = q at *
  generalize (lsF b 2 s).1 = l at *
  have HNL := hide hNl
  clear a1 b1 t1 l1 HLS hNl
  go_wp2_with fail
  go_loopw [4, 5] (fun r4 ri wr => ∃ k i : Nat, i = 2 * k ∧ k ≤ N / 2 ∧ ri = .int .i64 i ∧ Hid (Own wr w1.heap.size 128 2 e2 r4 (prK l k)) ∧ Hid (Ext w1 wr)) (fun _ ri _ => N + 2 - (intOf ri).toNat)
  case atStart => exact ⟨0, 0, rfl, Nat.zero_le _, rfl, hide (Own.nil _ _ _ _ _), hide (Ext.refl _)⟩
  case round =>
    obtain ⟨k, i, hik, hk, rfl, HO, HX⟩ := hrel
    have i8 : IntKind.i64.wrap ((i : Int) + 1) = (i : Int) + 1 := by rw [IntKind.wrap_i64]; omega
    have i9 : IntKind.i64.wrap ((i : Int) + 2) = (i : Int) + 2 := by rw [IntKind.wrap_i64]; omega
    by_cases hlt : i + 1 < N
    · obtain ⟨bT, oT, rfl, _⟩ := A1.out.addr (by omega)
      have hat := A1.out.ext HX.out
      have a0 := hat.num (k := i) (by omega)
      have a1 := hat.num (k := i + 1) (by omega)
      have HSU : Hid (prK l (k + 1) = prK l k ++ [(l.getD i 0, l.getD (i + 1) 0)]) := hide (by rw [prK_succ, hik])
      have c0 := A1.out.num (k := i) (by omega)
      have c1 := A1.out.num (k := i + 1) (by omega)
      generalize l.getD i 0 = x at *
      generalize l.getD (i + 1) 0 = y at *
      have i1 : (i : Int) + 1 < (N : Int) := by omega
      have i2 : (i : Int) < (N : Int) := by omega
      have i0 : (0 : Int) ≤ (i : Int) := by omega
      have i3 : ((i : Int) + 1).toNat = i + 1 := by omega
      have i4 : (0 : Int) ≤ (i : Int) + 1 := by omega
      have hlk : (prK l k).length = k := prK_len _ _
      have S1 : Hid ((prK l k).length + 1 ≤ maxLen) := hide (by rw [hlk]; unfold maxLen; omega)
      have S2 : Hid (((prK l k).length + 1) * 16 ≤ 140737488355328) := hide (by rw [hlk]; omega)
      have S3 : Hid (w1.heap.size ≤ (wr.drew.alloc (.cells #[.int .i64 x, .int .i64 y] 128)).heap.size) := hide (by have := HX.out.size; rw [World.size_alloc]; show w1.heap.size ≤ wr.heap.size + 1; omega)
      have HK := hide (And.intro hik (half_lt hik hlt))
      clear hat hlk hik
      go_upto_region 6 with (fail)
      go_region_held3 (fun w' => w'.cell? ⟨bT, oT + i, none⟩ = some (.int .i64 x) ∧ w'.cell? ⟨bT, oT + (i + 1), none⟩ = some (.int .i64 y)) (first | go_keep | exact ⟨(Ext.alloc _ _).cell a0, (Ext.alloc _ _).cell a1⟩ | exact ⟨E7.cell c0, E7.cell c1⟩) (first
        | ((refine step_append_at rfl (.tmp 15) (.tmp 26) 78 rfl w1.heap.size 128 i0_ _ 16 Try.underlying78 hi0 hz0 hz1 hz2 rfl (by omega) len_e2 one_e2 _ _ (by simp [Act.eval]) (HO.out.ext (Ext.trans (Ext.drew _) (Ext.alloc _ _))) (some ⟨wr.drew.heap.size, 0, none⟩) 1 1 [(x, y)] (by simp [Act.eval]) (At.pair1 wr.drew x y _) S1.out S2.out S3.out ?_); intro v7 w7 o7 g7 _ _; have O7 := hide o7; have E7 : Ext w1 w7 := Own.below (HO.out.ext (Ext.trans (Ext.drew _) (Ext.alloc _ _))) (Ext.trans HX.out (Ext.trans (Ext.drew _) (Ext.alloc _ _))) g7 (Nat.le_refl _); clear o7 g7))
      all_goals go_wp2_with fail
      exact ⟨⟨k + 1, i + 2, by have := HK.out.1; omega, HK.out.2, by go_num, hide (by rw [HSU.out]; exact O7.out), hide E7⟩, by simp [intOf]; omega⟩
    · have hk2 : k = N / 2 := by omega
      have i1 : ¬ (i : Int) + 1 < (N : Int) := by omega
      have HE : Hid (prL l = prK l k) := hide (by unfold prL; rw [HNL.out, hk2])
      have HKK := hide hk2
      clear hk2
      obtain ⟨vA, vc, hv, hat⟩ := HO.out.at_ len_e2
      have HAT := hide hat
      have HLT := HO.out.lt
      subst hv
      clear hlt hat
      go_wp2_with fail
      go_ret
      rw [HE.out]
      exact ⟨_, _, _, rfl, HAT.out, B1.out.ext HX.out, T1.out.trans (Tw.of_ext HX.out _ _), fun a ha => by subst ha; have := (HLT a.block rfl).1; omega⟩
def addR (l : List (Int × Int)) (x : Int) : List (Int × Int) :=
  if 0 < l.length ∧ (l.getD (l.length - 1) (0, 0)).2 = x then l.set (l.length - 1) ((l.getD (l.length - 1) (0, 0)).1 + 1, x) else l ++ [(1, x)]
theorem addR_len (l : List (Int × Int)) (x : Int) : (addR l x).length ≤ l.length + 1 := by
  unfold addR; split <;> simp
theorem Grw.set1 (w : World) (g i n c : Nat) (u : Value) : Grw w (w.setCell ⟨g, i, none⟩ u) (.slice (some ⟨g, 0, none⟩) n c) (.slice (some ⟨g, 0, none⟩) n c) := by
  have h := Tw.set_ w g i u none
  exact ⟨⟨h.os, h.tape, h.output, h.size, fun k hk hr => h.block k hk (fun e => hr (by rw [e]; rfl)) (by simp)⟩, .inl rfl⟩
def GrRuns (w : World) (base : Nat) (v : Value) (l : List (Int × Int)) (e : Ending) (w' : World) : Prop := ∃ v', e = .returned v' ∧ Own w' base 128 2 e2 v' l ∧ Grw w w' v v'
set_option linter.unusedVariables false in
set_option maxRecDepth 100000 in
set_option maxHeartbeats 4000000 in
theorem addRun_any {w : World} {base : Nat} {v : Value} {l : List (Int × Int)} {x : Int} (ho : Own w base 128 2 e2 v l) (hbw : base ≤ w.heap.size) (hl : l.length ≤ 1000000000) (hc : -1 ≤ (l.getD (l.length - 1) (0, 0)).1 ∧ (l.getD (l.length - 1) (0, 0)).1 ≤ 1000000000000) :
    Calls Try.prog 73 #[v, .int .i64 x] w (GrRuns w base v (addR l x)) := by
  obtain ⟨A, c, rfl, hat⟩ := ho.at_ len_e2
  obtain ⟨n, hn⟩ : ∃ n, n = l.length := ⟨_, rfl⟩
  have HN := hide hn
  rw [← hn] at ho hat hc hl ⊢
  have HO := hide ho
  have HAP : Hid (¬(0 < n ∧ (l.getD (n - 1) (0, 0)).2 = x) → addR l x = l ++ [(1, x)]) := hide (fun h => by unfold addR; rw [← HN.out, if_neg h])
  have HIN : Hid ((0 < n ∧ (l.getD (n - 1) (0, 0)).2 = x) → addR l x = l.set (n - 1) ((l.getD (n - 1) (0, 0)).1 + 1, (l.getD (n - 1) (0, 0)).2)) := hide (fun h => by unfold addR; rw [← HN.out, if_pos h, h.2])
  have HL1 : Hid (l.length + 1 ≤ maxLen) := hide (by rw [← HN.out]; unfold maxLen; omega)
  have HL2 : Hid ((l.length + 1) * 16 ≤ 140737488355328) := hide (by rw [← HN.out]; omega)
  have HB2 : Hid (base ≤ (w.alloc (.cells #[.int .i64 1, .int .i64 x] 128)).heap.size) := hide (by rw [World.size_alloc]; omega)
  obtain ⟨i0_, hi0, hz0, hz1, hz2⟩ := info_parts Try.info128
  clear ho hn
  by_cases h0 : 0 < n
  · obtain ⟨g, rfl, hg1, hg2⟩ := HO.out.where2 h0
    obtain ⟨m, hm⟩ : ∃ m, m = n - 1 := ⟨_, rfl⟩
    rw [← hm] at HAP HIN hc
    have hmn : m < n := by omega
    obtain ⟨b1, b2⟩ := hat.pair hmn
    have hfz := HO.out.frozen2
    simp only [Nat.zero_add] at b1 b2
    have i1 : IntKind.i64.wrap ((n : Int) - 1) = (m : Int) := by rw [IntKind.wrap_i64]; have := HL1.out; rw [← HN.out] at this; unfold maxLen at this; omega
    have dn : decide ((0 : Int) < (n : Int)) = true := by rw [decide_eq_true_iff]; omega
    have HSET := hide (HO.out.setA m ((l.getD m (0, 0)).1 + 1))
    have HGS := hide (Grw.set1 w g (m * 2) n c (.int .i64 ((l.getD m (0, 0)).1 + 1)))
    generalize (l.getD m (0, 0)).1 = y at *
    generalize (l.getD m (0, 0)).2 = z at *
    have i2 : IntKind.i64.wrap (y + 1) = y + 1 := by rw [IntKind.wrap_i64]; omega
    clear hm hat hg1 hg2
    by_cases hx : z = x
    · subst hx
      have HV := hide (HIN.out ⟨h0, rfl⟩)
      have dz : (z == z) = true := by simp
      clear HIN HAP hc
      rw [HV.out]
      go_enter Try.func73, Try.ntmps73
      go_wp2_with fail
      go_ret
      exact ⟨_, rfl, HSET.out, HGS.out⟩
    · have HV := hide (HAP.out (fun h => hx h.2))
      have dz : (z == x) = false := by rw [beq_eq_false_iff_ne]; exact hx
      clear HIN HAP hc HSET HGS
      rw [HV.out]
      go_enter Try.func73, Try.ntmps73
      go_wp2_with (at_builtin; refine wpList_append_at _ rfl (.tmp 30) (.tmp 33) 78 rfl base 128 i0_ _ 16 Try.underlying78 hi0 hz0 hz1 hz2 rfl (by omega) len_e2 one_e2 _ _ (by rfl) (HO.out.ext (Ext.alloc _ _)) (some ⟨w.heap.size, 0, none⟩) 1 1 [(1, x)] (by rfl) (At.pair1 w 1 x _) HL1.out HL2.out HB2.out ?_; intro v7 w7 o7 g7 _ r7; have O7 := hide o7; have G7 := hide g7; have R7 := hide r7; clear o7 g7 r7)
      go_wp2_with fail
      go_ret
      exact ⟨_, rfl, O7.out, Grw.ahead (Ext.alloc _ _) (Grw.of G7.out R7.out)⟩
  · obtain rfl : n = 0 := by omega
    have HV := hide (HAP.out (fun h => h0 h.1))
    clear HIN HAP hc hat
    rw [HV.out]
    go_enter Try.func73, Try.ntmps73
    go_wp2_with (at_builtin; refine wpList_append_at _ rfl (.tmp 30) (.tmp 33) 78 rfl base 128 i0_ _ 16 Try.underlying78 hi0 hz0 hz1 hz2 rfl (by omega) len_e2 one_e2 _ _ (by rfl) (HO.out.ext (Ext.alloc _ _)) (some ⟨w.heap.size, 0, none⟩) 1 1 [(1, x)] (by rfl) (At.pair1 w 1 x _) HL1.out HL2.out HB2.out ?_; intro v7 w7 o7 g7 _ r7; have O7 := hide o7; have G7 := hide g7; have R7 := hide r7; clear o7 g7 r7)
    go_wp2_with fail
    go_ret
    exact ⟨_, rfl, O7.out, Grw.ahead (Ext.alloc _ _) (Grw.of G7.out R7.out)⟩
def NilIff (A B : Option Addr) : Prop := A = none ↔ B = none
def minK (l : List Int) : Nat → Int
  | 0 => l.getD 0 0
  | k + 1 => min (minK l k) (l.getD (k + 1) 0)
def maxK (l : List Int) : Nat → Int
  | 0 => l.getD 0 0
  | k + 1 => max (maxK l k) (l.getD (k + 1) 0)
theorem minK_le (l : List Int) : ∀ k i, i ≤ k → minK l k ≤ l.getD i 0
  | 0, i, h => by obtain rfl : i = 0 := by omega
                  exact Int.le_refl _
  | k + 1, i, h => by
    show min (minK l k) (l.getD (k + 1) 0) ≤ _
    rcases Nat.lt_or_ge k i with h1 | h1
    · obtain rfl : i = k + 1 := by omega
      exact Int.min_le_right _ _
    · exact Int.le_trans (Int.min_le_left _ _) (minK_le l k i h1)
theorem maxK_ge (l : List Int) : ∀ k i, i ≤ k → l.getD i 0 ≤ maxK l k
  | 0, i, h => by obtain rfl : i = 0 := by omega
                  exact Int.le_refl _
  | k + 1, i, h => by
    show _ ≤ max (maxK l k) (l.getD (k + 1) 0)
    rcases Nat.lt_or_ge k i with h1 | h1
    · obtain rfl : i = k + 1 := by omega
      exact Int.le_max_right _ _
    · exact Int.le_trans (maxK_ge l k i h1) (Int.le_max_left _ _)
theorem minmax_iff (l : List Int) (k : Nat) : minK l k = maxK l k ↔ ∀ i, i ≤ k → l.getD i 0 = l.getD 0 0 := by
  constructor
  · intro h i hi
    have a1 := minK_le l k i hi
    have a2 := maxK_ge l k i hi
    have a3 := minK_le l k 0 (Nat.zero_le _)
    have a4 := maxK_ge l k 0 (Nat.zero_le _)
    omega
  · intro h
    have key : ∀ j, j ≤ k → minK l j = l.getD 0 0 ∧ maxK l j = l.getD 0 0 := by
      intro j
      induction j with
      | zero => intro _; exact ⟨rfl, rfl⟩
      | succ j ih =>
        intro hj
        obtain ⟨b1, b2⟩ := ih (by omega)
        have b3 := h (j + 1) hj
        refine ⟨?_, ?_⟩
        · show min (minK l j) (l.getD (j + 1) 0) = _
          rw [b1, b3]; omega
        · show max (maxK l j) (l.getD (j + 1) 0) = _
          rw [b2, b3]; omega
    rw [(key k (Nat.le_refl _)).1, (key k (Nat.le_refl _)).2]
set_option linter.unusedVariables false in
set_option maxRecDepth 100000 in
set_option maxHeartbeats 4000000 in
theorem minI_any {A : Option Addr} {n c : Nat} {l : List Int} {w : World} (h : At w 1 e64 A n c l) (hn : 0 < n) (hn2 : n ≤ 1000000000) :
    Calls Try.prog 74 #[.slice A n c] w fun e w' => e = .returned (.int .i64 (minK l (n - 1))) ∧ w = w' := by
  obtain ⟨b, off, rfl, _⟩ := h.addr hn
  have H := hide h
  have d0 : decide ((n : Int) < 1) = false := by rw [decide_eq_false_iff_not]; omega
  have x0 := h.cellK hn 0 0 _ rfl
  simp only [Nat.mul_one, Nat.add_zero] at x0
  have H0 : Hid (l.getD 0 0 = minK l 0) := hide rfl
  rw [H0.out] at x0
  have nI : (0 : Int) < (n : Int) := by omega
  clear h
  go_enter Try.func74, Try.ntmps74
  go_wp2_with fail
  go_loopw [3, 4] (fun r3 ri wr => ∃ k : Nat, 1 ≤ k ∧ k ≤ n ∧ ri = .int .i64 (k : Int) ∧ r3 = .int .i64 (minK l (k - 1)) ∧ w = wr) (fun _ ri _ => n - (intOf ri).toNat)
  case atStart => exact ⟨1, by omega, by omega, rfl, rfl, rfl⟩
  case round =>
    obtain ⟨k, hk1, hk, rfl, rfl, rfl⟩ := hrel
    by_cases hlt : k < n
    · have a0 := H.out.cellK hlt 0 0 _ rfl
      simp only [Nat.mul_one, Nat.add_zero] at a0
      have HSU : Hid (minK l k = min (minK l (k - 1)) (l.getD k 0)) := hide (by obtain ⟨q, rfl⟩ : ∃ q, k = q + 1 := ⟨k - 1, by omega⟩; rfl)
      generalize l.getD k 0 = x at *
      have i1 : (k : Int) < (n : Int) := by omega
      have i0 : (0 : Int) ≤ (k : Int) := by omega
      have i8 : IntKind.i64.wrap ((k : Int) + 1) = (k : Int) + 1 := by rw [IntKind.wrap_i64]; omega
      go_wp2_with fail
      exact ⟨⟨k + 1, by omega, by omega, by go_num, by rw [Nat.add_sub_cancel, HSU.out], by first | trivial | rfl⟩, by simp [intOf]; omega⟩
    · obtain rfl : k = n := by omega
      go_wp2_with fail
      go_ret
      exact ⟨rfl, rfl⟩
set_option linter.unusedVariables false in
set_option maxRecDepth 100000 in
set_option maxHeartbeats 4000000 in
theorem maxI_any {A : Option Addr} {n c : Nat} {l : List Int} {w : World} (h : At w 1 e64 A n c l) (hn : 0 < n) (hn2 : n ≤ 1000000000) :
    Calls Try.prog 75 #[.slice A n c] w fun e w' => e = .returned (.int .i64 (maxK l (n - 1))) ∧ w = w' := by
  obtain ⟨b, off, rfl, _⟩ := h.addr hn
  have H := hide h
  have d0 : decide ((n : Int) < 1) = false := by rw [decide_eq_false_iff_not]; omega
  have x0 := h.cellK hn 0 0 _ rfl
  simp only [Nat.mul_one, Nat.add_zero] at x0
  have H0 : Hid (l.getD 0 0 = maxK l 0) := hide rfl
  rw [H0.out] at x0
  have nI : (0 : Int) < (n : Int) := by omega
  clear h
  go_enter Try.func75, Try.ntmps75
  go_wp2_with fail
  go_loopw [3, 4] (fun r3 ri wr => ∃ k : Nat, 1 ≤ k ∧ k ≤ n ∧ ri = .int .i64 (k : Int) ∧ r3 = .int .i64 (maxK l (k - 1)) ∧ w = wr) (fun _ ri _ => n - (intOf ri).toNat)
  case atStart => exact ⟨1, by omega, by omega, rfl, rfl, rfl⟩
  case round =>
    obtain ⟨k, hk1, hk, rfl, rfl, rfl⟩ := hrel
    by_cases hlt : k < n
    · have a0 := H.out.cellK hlt 0 0 _ rfl
      simp only [Nat.mul_one, Nat.add_zero] at a0
      have HSU : Hid (maxK l k = max (maxK l (k - 1)) (l.getD k 0)) := hide (by obtain ⟨q, rfl⟩ : ∃ q, k = q + 1 := ⟨k - 1, by omega⟩; rfl)
      generalize l.getD k 0 = x at *
      have i1 : (k : Int) < (n : Int) := by omega
      have i0 : (0 : Int) ≤ (k : Int) := by omega
      have i8 : IntKind.i64.wrap ((k : Int) + 1) = (k : Int) + 1 := by rw [IntKind.wrap_i64]; omega
      go_wp2_with fail
      exact ⟨⟨k + 1, by omega, by omega, by go_num, by rw [Nat.add_sub_cancel, HSU.out], by first | trivial | rfl⟩, by simp [intOf]; omega⟩
    · obtain rfl : k = n := by omega
      go_wp2_with fail
      go_ret
      exact ⟨rfl, rfl⟩
set_option maxRecDepth 100000 in
set_option maxHeartbeats 4000000 in
theorem cloneI_any {A : Option Addr} {n c : Nat} {l : List Int} {w : World} (h : At w 1 e64 A n c l) (hb : n ≤ 1000000000) :
    Calls Try.prog 72 #[.slice A n c] w fun e w' => ∃ A' c', e = .returned (.slice A' n c') ∧ Own w' w.heap.size 3 1 e64 (.slice A' n c') l ∧ NilIff A' A ∧ Ext w w' := by
  obtain ⟨i0, hi0, hz0, hz1, hz2⟩ := info_parts Try.info3
  have hl := h.len
  have H := hide h
  have HL := hide hl
  clear hl h
  cases A with
  | none =>
    have hn := H.out.none_ rfl
    have hle := H.out.le
    obtain rfl : n = 0 := by omega
    have hc0 : c = 0 := hn
    subst hc0
    have e1 := fun (W : World) => Lib.run_eql_slice_nil (P := Try.prog) W 79 3 none 0 0 0 0 Try.underlying79
    go_enter Try.func72, Try.ntmps72
    obtain rfl : l = [] := List.eq_nil_of_length_eq_zero HL.out
    go_wp2
    go_ret
    exact ⟨none, 0, rfl, Own.nil _ _ _ _ _, Iff.rfl, Ext.refl _⟩
  | some a =>
    have e1 := fun (W : World) => Lib.run_eql_slice_nil (P := Try.prog) W 79 3 (some a) n c 0 0 Try.underlying79
    go_enter Try.func72, Try.ntmps72
    have o0 : Own (w.alloc (.cells #[] 3)) w.heap.size 3 1 e64 (.slice (some ⟨w.heap.size, 0, none⟩) 0 0) [] :=
      ⟨by simp, .inr ⟨w.heap.size, 0, #[], rfl, Nat.le_refl _, heap_alloc_new w _, Nat.le_refl _, by unfold maxLen; omega, rfl, rfl⟩⟩
    have O0 := hide o0
    clear o0
    go_wp2_with (at_builtin; refine wpList_append_at _ rfl (.tmp 5) (.tmp 6) 79 rfl w.heap.size 3 i0 _ 8 Try.underlying79 hi0 hz0 hz1 hz2 rfl (by omega) len_e64 one_e64 (.slice (some ⟨w.heap.size, 0, none⟩) 0 0) [] rfl O0.out (some a) n c l rfl (H.out.ext (by repeat' (first | (with_reducible first | exact Below.refl _ _ | assumption | refine below_drewN ?_ _ | refine Below.drew ?_ | refine ext_alloc ?_ _ | refine Below.setCell ?_ ?_ _) | go_size))) ?b1 ?b2 ?b3 ?_)
    case b1 => simp; have := H.out.max; have := H.out.le; unfold maxLen at *; omega
    case b2 => simp; omega
    case b3 => simp
    intro v3 w3 o3 g3 n3 _
    go_wp2
    go_ret
    obtain ⟨A3, c3, hv3, at3⟩ := o3.at_ len_e64
    try simp only [List.nil_append] at hv3 o3 at3
    rw [HL.out] at hv3
    refine ⟨A3, c3, ret_val hv3, by rw [← hv3]; exact o3, ?_, O0.out.below (by repeat' (first | (with_reducible first | exact Below.refl _ _ | assumption | refine below_drewN ?_ _ | refine Below.drew ?_ | refine ext_alloc ?_ _ | refine Below.setCell ?_ ?_ _) | go_size)) g3 (Nat.le_refl _)⟩
    have h1 : v3 ≠ .slice none 0 0 := n3
    constructor
    · intro h
      subst h
      exfalso
      have := at3.none_ rfl
      have := at3.le
      have h2 := HL.out
      apply h1
      rw [hv3]
      obtain rfl : n = 0 := by omega
      obtain rfl : c3 = 0 := by omega
      rfl
    · intro h; cases h
end Go.Proofs.Ytkbmgakehlmcnaa
namespace Go.Proofs.Ytkbmgakehlmcnaa
def rowK (f : Smp → Int) (l : List Smp) : Nat → List (Int × Int)
  | 0 => []
  | k + 1 => addR (rowK f l k) (f (l.getD k dS))
theorem addR_bd {l : List (Int × Int)} {x m : Int} (h : ∀ i, i < l.length → 1 ≤ (l.getD i (0, 0)).1 ∧ (l.getD i (0, 0)).1 ≤ m) (hm : 0 ≤ m) : ∀ i, i < (addR l x).length → 1 ≤ ((addR l x).getD i (0, 0)).1 ∧ ((addR l x).getD i (0, 0)).1 ≤ m + 1 := by
  unfold addR
  split
  · rename_i hc
    intro i hi
    rw [List.length_set] at hi
    by_cases hl : i = l.length - 1
    · subst hl
      obtain ⟨h1, h2⟩ := h (l.length - 1) (by omega)
      have e : (l.set (l.length - 1) ((l.getD (l.length - 1) (0, 0)).1 + 1, x)).getD (l.length - 1) (0, 0) = ((l.getD (l.length - 1) (0, 0)).1 + 1, x) := by
        rw [List.getD_eq_getElem?_getD, List.getElem?_set_self (by omega)]; rfl
      rw [e]
      exact ⟨by show 1 ≤ (l.getD (l.length - 1) (0, 0)).1 + 1; omega, by show (l.getD (l.length - 1) (0, 0)).1 + 1 ≤ m + 1; omega⟩
    · have e : (l.set (l.length - 1) ((l.getD (l.length - 1) (0, 0)).1 + 1, x)).getD i (0, 0) = l.getD i (0, 0) := by
        rw [List.getD_eq_getElem?_getD, List.getElem?_set_ne (by omega), ← List.getD_eq_getElem?_getD]
      rw [e]
      obtain ⟨h1, h2⟩ := h i hi
      exact ⟨h1, by omega⟩
  · intro i hi
    rw [List.length_append] at hi
    simp only [List.length_cons, List.length_nil] at hi
    by_cases hl : i < l.length
    · have e : (l ++ [((1 : Int), x)]).getD i (0, 0) = l.getD i (0, 0) := by
        rw [List.getD_eq_getElem?_getD, List.getElem?_append_left hl, ← List.getD_eq_getElem?_getD]
      rw [e]
      obtain ⟨h1, h2⟩ := h i hl
      exact ⟨h1, by omega⟩
    · obtain rfl : i = l.length := by omega
      have e : (l ++ [((1 : Int), x)]).getD l.length (0, 0) = (1, x) := by
        rw [List.getD_eq_getElem?_getD, List.getElem?_append_right (Nat.le_refl _)]; simp
      rw [e]
      exact ⟨by show (1 : Int) ≤ 1; omega, by show (1 : Int) ≤ m + 1; omega⟩
theorem rowK_bd (f : Smp → Int) (l : List Smp) : ∀ k : Nat, (rowK f l k).length ≤ k ∧ ∀ i, i < (rowK f l k).length → 1 ≤ ((rowK f l k).getD i (0, 0)).1 ∧ ((rowK f l k).getD i (0, 0)).1 ≤ (k : Int)
  | 0 => ⟨Nat.le_refl _, fun i hi => absurd hi (Nat.not_lt_zero _)⟩
  | k + 1 => by
    obtain ⟨h1, h2⟩ := rowK_bd f l k
    refine ⟨Nat.le_trans (addR_len _ _) (by omega), fun i hi => ?_⟩
    have := addR_bd h2 (by omega) i hi
    exact ⟨this.1, by have := this.2; show _ ≤ ((k + 1 : Nat) : Int); rw [Int.natCast_add]; exact this⟩
theorem rowK_last (f : Smp → Int) (l : List Smp) {k : Nat} (hk : k ≤ 1000000) : -1 ≤ ((rowK f l k).getD ((rowK f l k).length - 1) (0, 0)).1 ∧ ((rowK f l k).getD ((rowK f l k).length - 1) (0, 0)).1 ≤ 1000000000000 := by
  obtain ⟨_, h2⟩ := rowK_bd f l k
  by_cases h : 0 < (rowK f l k).length
  · have := h2 ((rowK f l k).length - 1) (by omega)
    omega
  · have e : (rowK f l k).getD ((rowK f l k).length - 1) (0, 0) = (0, 0) := by
      rw [List.getD_eq_getElem?_getD, List.getElem?_eq_none (by omega)]; rfl
    rw [e]; show (-1 : Int) ≤ 0 ∧ (0 : Int) ≤ _; omega
def keyK (l : List Smp) : Nat → List Int
  | 0 => []
  | k + 1 => if (l.getD k dS).key = true then keyK l k ++ [(k : Int) + 1] else keyK l k
theorem keyK_len (l : List Smp) : ∀ k, (keyK l k).length ≤ k
  | 0 => Nat.le_refl _
  | k + 1 => by
    have := keyK_len l k
    unfold keyK
    split
    · rw [List.length_append]; simp; omega
    · omega
theorem keyK_all (l : List Smp) : ∀ k, (keyK l k).length = k ↔ ∀ i, i < k → (l.getD i dS).key = true
  | 0 => ⟨fun _ i hi => absurd hi (Nat.not_lt_zero _), fun _ => rfl⟩
  | k + 1 => by
    have h1 := keyK_len l k
    have h2 := keyK_all l k
    unfold keyK
    split
    · rename_i hk
      rw [List.length_append]
      simp only [List.length_cons, List.length_nil]
      constructor
      · intro h i hi
        rcases Nat.lt_or_ge i k with h3 | h3
        · exact h2.1 (by omega) i h3
        · obtain rfl : i = k := by omega
          exact hk
      · intro h
        have := h2.2 (fun i hi => h i (by omega))
        omega
    · rename_i hk
      constructor
      · intro h; omega
      · intro h; exact absurd (h k (by omega)) hk
def chK (ch : List Int) : Nat → List (Int × Int)
  | 0 => []
  | k + 1 => if k = 0 ∨ ch.getD k 0 ≠ ch.getD (k - 1) 0 then chK ch k ++ [((k : Int) + 1, ch.getD k 0)] else chK ch k
theorem chK_last (ch : List Int) : ∀ k, 0 < k → 0 < (chK ch k).length ∧ ((chK ch k).getD ((chK ch k).length - 1) (0, 0)).2 = ch.getD (k - 1) 0
  | 0, h => absurd h (Nat.lt_irrefl _)
  | k + 1, _ => by
    unfold chK
    split
    · rename_i hc
      refine ⟨by rw [List.length_append]; simp, ?_⟩
      rw [List.length_append]
      simp only [List.length_cons, List.length_nil, Nat.add_sub_cancel]
      rw [List.getD_eq_getElem?_getD, List.getElem?_append_right (by omega)]
      simp
    · rename_i hc
      have hc : 0 < k ∧ ch.getD k 0 = ch.getD (k - 1) 0 := by
        refine ⟨by omega, ?_⟩
        by_cases h : ch.getD k 0 = ch.getD (k - 1) 0
        · exact h
        · exact absurd (.inr h) hc
      obtain ⟨h1, h2⟩ := chK_last ch k hc.1
      exact ⟨h1, by rw [h2, Nat.add_sub_cancel]; exact hc.2.symm⟩
theorem chK_len (ch : List Int) : ∀ k, (chK ch k).length ≤ k
  | 0 => Nat.le_refl _
  | k + 1 => by
    have := chK_len ch k
    unfold chK
    split
    · rw [List.length_append]; simp; omega
    · omega
theorem chK_test (ch : List Int) (k : Nat) : ((chK ch k).length = 0 ∨ ((chK ch k).getD ((chK ch k).length - 1) (0, 0)).2 ≠ ch.getD k 0) ↔ (k = 0 ∨ ch.getD k 0 ≠ ch.getD (k - 1) 0) := by
  rcases Nat.eq_zero_or_pos k with h | h
  · subst h; simp [chK]
  · obtain ⟨h1, h2⟩ := chK_last ch k h
    rw [h2]
    constructor
    · rintro (h3 | h3)
      · omega
      · exact .inr (fun e => h3 e.symm)
    · rintro (h3 | h3)
      · omega
      · exact .inr (fun e => h3 e.symm)
end Go.Proofs.Ytkbmgakehlmcnaa
