/- Several texts in one: A table is read as it was written, and written as it was read. Plain; Plain: where the chunks of tracks lie among all bytes. Conditions as stated; Plain: what is put into a table comes out of it. Conditions as stated. -/
import Derived.Test.YtlonhkjplijlcaaMfd10
import Derived.Test.YtlonhkjplijlcaaMfd09
import Derived.Test.YtlonhkjplijlcaaMfd07
import Derived.Test.YtlonhkjplijlcaaMfd15
import Derived.Test.YtlonhkjplijlcaaMfd25
namespace Go.Proofs.Ytlonhkjplijlcaa
open Go.RowKit
def Lies (b : List UInt8) (p : Nat) (l : List UInt8) : Prop := (b.drop p).take l.length = l ∧ p + l.length ≤ b.length
theorem lies_app {b l m : List UInt8} {p : Nat} : Lies b p (l ++ m) ↔ Lies b p l ∧ Lies b (p + l.length) m := by
  unfold Lies
  rw [List.length_append]
  constructor
  · rintro ⟨h1, h2⟩
    have h3 := congrArg (List.take l.length) h1
    have h4 := congrArg (List.drop l.length) h1
    rw [List.take_take, show min l.length (l.length + m.length) = l.length by omega, List.take_left' rfl] at h3
    rw [List.drop_take, List.drop_drop, List.drop_left' rfl, show l.length + m.length - l.length = m.length by omega] at h4
    exact ⟨⟨h3, by omega⟩, h4, by omega⟩
  · rintro ⟨⟨h1, h2⟩, h3, h4⟩
    refine ⟨?_, by omega⟩
    rw [List.take_add, h1, List.drop_drop, h3]
theorem lies_all (b : List UInt8) : Lies b 0 b := ⟨by simp, by simp⟩
theorem lies_cut {b l : List UInt8} {p k : Nat} (h : Lies b p l) (hl : l.length = k) : cutB b p (p + k) = l := by
  unfold cutB; rw [show p + k - p = l.length by omega]; exact h.1
theorem rd_lies {b l : List UInt8} {p k : Nat} (h : Lies b p l) (hl : l.length = k) : rdN b k ⟨p, false⟩ = (numB l, ⟨p + k, false⟩) := by
  have h2 := h.2
  rw [rdN_ok rfl (by show k ≤ b.length - p; omega), lies_cut h hl]
theorem wrap_u64N {x : Int} (h : -9223372036854775808 ≤ x ∧ x ≤ 9223372036854775807) : IntKind.i64.wrap ((u64N x : Nat) : Int) = x := by
  rw [u64N_cast, IntKind.wrap_u64, IntKind.wrap_i64]; omega
theorem nm_lies {b : List UInt8} {l : List Int} (hb : ∀ i, i < l.length → -9223372036854775808 ≤ l.getD i 0 ∧ l.getD i 0 ≤ 9223372036854775807) {p : Nat} (h : Lies b p (lsB l)) : ∀ k, k ≤ l.length → nmL b ⟨p, false⟩ k = (l.take k, ⟨p + 8 * k, false⟩)
  | 0, _ => by simp [nmL]
  | k + 1, hk => by
    have ih := nm_lies hb h k (by omega)
    have hk2 : k < l.length := by omega
    have e : lsB l = lsB (l.take k) ++ beN 8 (u64N (l.getD k 0)) ++ lsB (l.drop (k + 1)) := by
      rw [← lsB_take hk2]
      unfold lsB
      rw [← List.flatMap_append, List.take_append_drop]
    rw [e] at h
    have h1 := (lies_app.1 (lies_app.1 h).1).2
    rw [lsB_len, List.length_take, show min k l.length = k by omega] at h1
    have h2 := rd_lies h1 (beN_len 8 _)
    rw [nmL, ih]
    show (l.take k ++ [IntKind.i64.wrap ((rdN b 8 ⟨p + 8 * k, false⟩).1 : Int)], (rdN b 8 ⟨p + 8 * k, false⟩).2) = _
    rw [h2, beN_numB 8 _ (u64N_lt _)]
    show (l.take k ++ [IntKind.i64.wrap ((u64N (l.getD k 0) : Nat) : Int)], (⟨p + 8 * k + 8, false⟩ : Rd)) = _
    rw [wrap_u64N (hb k hk2), getD_take l k 0 hk2, show p + 8 * k + 8 = p + 8 * (k + 1) by omega]
theorem ls_lies {b : List UInt8} {l : List Int} {many each p : Nat} (hb : ∀ i, i < l.length → -9223372036854775808 ≤ l.getD i 0 ∧ l.getD i 0 ≤ 9223372036854775807) (hm : many * each = l.length) (hml : many < 4294967296) (h : Lies b p (liB many l)) : lsF b each ⟨p, false⟩ = (l, ⟨p + (4 + 8 * l.length), false⟩) := by
  unfold liB at h
  obtain ⟨h1, h2⟩ := lies_app.1 h
  rw [beN_len] at h2
  have h3 := rd_lies h1 (beN_len 4 _)
  rw [beN_numB 4 _ hml] at h3
  have h4 : lsH b each ⟨p, false⟩ = (l.length, ⟨p + 4, false⟩) := by
    unfold lsH
    have h5 := h2.2
    rw [lsB_len] at h5
    rw [h3, if_neg (by simp), if_neg (by show ¬ b.length - (p + 4) < many * each * 8; rw [hm]; omega)]
    rw [hm]
  unfold lsF
  rw [h4]
  show nmL b ⟨p + 4, false⟩ l.length = _
  rw [nm_lies hb h2 _ (Nat.le_refl _), List.take_of_length_le (Nat.le_refl _), show p + 4 + 8 * l.length = p + (4 + 8 * l.length) by omega]
theorem prL_rnN : ∀ l : List (Int × Int), prL (rnN l) = l := by
  intro l
  unfold prL
  rw [rnN_len, show 2 * l.length / 2 = l.length by omega]
  have key : ∀ k, k ≤ l.length → prK (rnN l) k = l.take k := by
    intro k
    induction k with
    | zero => intro _; simp [prK]
    | succ k ih =>
      intro hk
      have hk2 : k < l.length := by omega
      rw [prK_succ, ih (by omega), getD_take l k (0, 0) hk2]
      have e : rnN l = rnN (l.take k) ++ ([(l.getD k (0, 0)).1, (l.getD k (0, 0)).2] ++ rnN (l.drop (k + 1))) := by
        rw [← List.append_assoc, ← rnN_take hk2]
        unfold rnN
        rw [← List.flatMap_append, List.take_append_drop]
      have hl : (rnN (l.take k)).length = 2 * k := by rw [rnN_len, List.length_take]; omega
      have g0 : (rnN l).getD (2 * k) 0 = (l.getD k (0, 0)).1 := by
        rw [e, List.getD_eq_getElem?_getD, List.getElem?_append_right (by omega), hl]; simp
      have g1 : (rnN l).getD (2 * k + 1) 0 = (l.getD k (0, 0)).2 := by
        rw [e, List.getD_eq_getElem?_getD, List.getElem?_append_right (by omega), hl, show 2 * k + 1 - 2 * k = 1 by omega]; simp
      rw [g0, g1]
  rw [key _ (Nat.le_refl _), List.take_of_length_le (Nat.le_refl _)]
theorem rnN_rng {l : List (Int × Int)} {P : Int → Prop} (h : ∀ i, i < l.length → P (l.getD i (0, 0)).1 ∧ P (l.getD i (0, 0)).2) : ∀ i, i < (rnN l).length → P ((rnN l).getD i 0) := by
  intro i hi
  have hm : (rnN l).getD i 0 ∈ rnN l := getD_mem _ _ _ hi
  generalize (rnN l).getD i 0 = x at *
  unfold rnN at hm
  obtain ⟨r, hr, hx⟩ := List.mem_flatMap.1 hm
  obtain ⟨j, hj, e⟩ := mem_getD (0, 0) hr
  have := h j hj
  rw [← e] at this
  simp at hx
  rcases hx with hx | hx
  · rw [hx]; exact this.1
  · rw [hx]; exact this.2
theorem el_at {l : List Int} {lo hi : Int} (f : List Int → Nat → Int) (hf : ∀ i, f l i = if l.getD i 0 < lo ∨ hi < l.getD i 0 then 1 else 0) (h : firstF (f l) l.length = 0) {i : Nat} (hi' : i < l.length) : lo ≤ l.getD i 0 ∧ l.getD i 0 ≤ hi := by
  have := firstF_all h i hi'
  rw [hf] at this
  by_cases h1 : l.getD i 0 < lo ∨ hi < l.getD i 0
  · rw [if_pos h1] at this; omega
  · omega
theorem tb_read {t : Tab} (h : tabF t = 0) (hk : t.nok = true → t.keys = []) (hlen : (tabBy t).length ≤ 1000000) : rtF (tabBy t) = 0 ∧ rtT (tabBy t) = t ∧ rtA (tabBy t) = 0 := by
  have R := tab_right h
  have hfew := tab_few R
  obtain ⟨b, hb⟩ : ∃ b, b = tabBy t := ⟨_, rfl⟩
  rw [← hb] at hlen ⊢
  have hL := lies_all b
  have e0 : b = beN 8 (u64N t.start) ++ liB t.steps.length (rnN t.steps) ++ liB t.shifts.length (rnN t.shifts) ++ liB t.sizes.length t.sizes ++ keyB t.nok t.keys ++ liB t.chunks.length (rnN t.chunks) ++ liB t.places.length t.places := hb
  have hL2 : Lies b 0 (beN 8 (u64N t.start) ++ liB t.steps.length (rnN t.steps) ++ liB t.shifts.length (rnN t.shifts) ++ liB t.sizes.length t.sizes ++ keyB t.nok t.keys ++ liB t.chunks.length (rnN t.chunks) ++ liB t.places.length t.places) := by rw [← e0]; exact hL
  obtain ⟨hL5, g6⟩ := lies_app.1 hL2
  obtain ⟨hL4, g5⟩ := lies_app.1 hL5
  obtain ⟨hL3, g4⟩ := lies_app.1 hL4
  obtain ⟨hL2', g3⟩ := lies_app.1 hL3
  obtain ⟨hL1, g2⟩ := lies_app.1 hL2'
  obtain ⟨g0, g1⟩ := lies_app.1 hL1
  simp only [List.length_append, beN_len, liB_len, rnN_len, Nat.zero_add] at g1 g2 g3 g4 g5 g6
  have hst := R.start
  unfold noT at hst
  simp only [decide_eq_false_iff_not] at hst
  have c0 : r0F b = (u64N t.start, ⟨8, false⟩) := by
    unfold r0F; rw [rd_lies g0 (beN_len 8 _), beN_numB 8 _ (u64N_lt _)]
  have rg1 := rnN_rng (l := t.steps) (P := fun x => -9223372036854775808 ≤ x ∧ x ≤ 9223372036854775807) (fun i hi => by have := runs_ok R.steps i hi; exact ⟨by omega, by omega⟩)
  have rg2 := rnN_rng (l := t.shifts) (P := fun x => -9223372036854775808 ≤ x ∧ x ≤ 9223372036854775807) (fun i hi => by have := runs_ok R.shifts i hi; exact ⟨by omega, by omega⟩)
  have rg5 := rnN_rng (l := t.chunks) (P := fun x => -9223372036854775808 ≤ x ∧ x ≤ 9223372036854775807) (fun i hi => by have := (ch_ok R.chunks i hi).1; exact ⟨by omega, by omega⟩)
  have rg3 : ∀ i, i < t.sizes.length → -9223372036854775808 ≤ t.sizes.getD i 0 ∧ t.sizes.getD i 0 ≤ 9223372036854775807 := fun i hi => by
    have := el_at (lo := 0) (hi := 100000) szEl (fun _ => rfl) R.sizes hi; omega
  have rg6 : ∀ i, i < t.places.length → -9223372036854775808 ≤ t.places.getD i 0 ∧ t.places.getD i 0 ≤ 9223372036854775807 := fun i hi => by
    have := el_at (lo := 0) (hi := 1000000) plEl (fun _ => rfl) R.places hi; omega
  have rg4 : ∀ i, i < t.keys.length → -9223372036854775808 ≤ t.keys.getD i 0 ∧ t.keys.getD i 0 ≤ 9223372036854775807 := fun i hi => by
    have h1 := key_at R.keys hi
    have h2 := R.few
    omega
  have c1 : r1F b = (rnN t.steps, ⟨8 + (4 + 8 * (2 * t.steps.length)), false⟩) := by
    unfold r1F; rw [c0]
    have := ls_lies (each := 2) rg1 (by rw [rnN_len]; omega) (by omega) g1
    rw [rnN_len] at this; exact this
  have c2 : r2F b = (rnN t.shifts, ⟨8 + (4 + 8 * (2 * t.steps.length)) + (4 + 8 * (2 * t.shifts.length)), false⟩) := by
    unfold r2F; rw [c1]
    have := ls_lies (each := 2) rg2 (by rw [rnN_len]; omega) (by omega) g2
    rw [rnN_len] at this; exact this
  have c3 : r3F b = (t.sizes, ⟨8 + (4 + 8 * (2 * t.steps.length)) + (4 + 8 * (2 * t.shifts.length)) + (4 + 8 * t.sizes.length), false⟩) := by
    unfold r3F; rw [c2]
    exact ls_lies (each := 1) rg3 (by omega) (by omega) g3
  generalize hp3 : 8 + (4 + 8 * (2 * t.steps.length)) + (4 + 8 * (2 * t.shifts.length)) + (4 + 8 * t.sizes.length) = p3 at *
  have c5 : hasK b = !t.nok ∧ r5F b = (t.keys, ⟨p3 + (keyB t.nok t.keys).length, false⟩) := by
    cases hn : t.nok with
    | true =>
      rw [hn] at g4
      have hk0 := hk hn
      have e1 : keyB true t.keys = [0] := rfl
      rw [e1] at g4
      have h1 := rd_lies (k := 1) g4 rfl
      have h2 : r4F b = (0, ⟨p3 + 1, false⟩) := by
        unfold r4F; rw [c3]; unfold rdF
        show (if (rdN b 1 ⟨p3, false⟩).2.bad = false ∧ 1 < (rdN b 1 ⟨p3, false⟩).1 then _ else _) = _
        rw [h1]; rfl
      have h3 : hasK b = false := by unfold hasK; rw [h2]; rfl
      refine ⟨by rw [h3]; rfl, ?_⟩
      unfold r5F; rw [h3, if_neg (by simp), h2, hk0]; rfl
    | false =>
      rw [hn] at g4
      have e1 : keyB false t.keys = [1] ++ liB t.keys.length t.keys := by unfold keyB; rw [if_neg (by simp)]
      rw [e1] at g4
      obtain ⟨g4a, g4b⟩ := lies_app.1 g4
      have h1 := rd_lies (k := 1) g4a rfl
      have h2 : r4F b = (1, ⟨p3 + 1, false⟩) := by
        unfold r4F; rw [c3]; unfold rdF
        show (if (rdN b 1 ⟨p3, false⟩).2.bad = false ∧ 1 < (rdN b 1 ⟨p3, false⟩).1 then _ else _) = _
        rw [h1]; rfl
      have h3 : hasK b = true := by unfold hasK; rw [h2]; rfl
      refine ⟨by rw [h3]; rfl, ?_⟩
      unfold r5F; rw [h3, if_pos rfl, h2, e1]
      have := ls_lies (each := 1) rg4 (by omega) (by omega) g4b
      rw [List.length_append, liB_len]
      show lsF b 1 ⟨p3 + 1, false⟩ = _
      rw [show p3 + (([1] : List UInt8).length + (4 + 8 * t.keys.length)) = p3 + 1 + (4 + 8 * t.keys.length) by simp; omega]
      exact this
  generalize hp5 : p3 + (keyB t.nok t.keys).length = p5 at *
  have c6 : r6F b = (rnN t.chunks, ⟨p5 + (4 + 8 * (2 * t.chunks.length)), false⟩) := by
    unfold r6F; rw [c5.2]
    have := ls_lies (each := 2) rg5 (by rw [rnN_len]; omega) (by omega) g5
    rw [rnN_len] at this; exact this
  have c7 : r7F b = (t.places, ⟨p5 + (4 + 8 * (2 * t.chunks.length)) + (4 + 8 * t.places.length), false⟩) := by
    unfold r7F; rw [c6]
    exact ls_lies (each := 1) rg6 (by omega) (by omega) g6
  have hbl : b.length = p5 + (4 + 8 * (2 * t.chunks.length)) + (4 + 8 * t.places.length) := by
    have := congrArg List.length e0
    simp only [List.length_append, beN_len, liB_len, rnN_len] at this
    omega
  have cE : rtE b = ⟨p5 + (4 + 8 * (2 * t.chunks.length)) + (4 + 8 * t.places.length), false⟩ := by
    unfold rtE; rw [c7]; unfold rdE; rw [if_neg]
    show ¬ (false = false ∧ p5 + (4 + 8 * (2 * t.chunks.length)) + (4 + 8 * t.places.length) < b.length)
    omega
  refine ⟨by unfold rtF; rw [if_neg (by omega), cE, if_neg (by simp)], ?_, by unfold rtA; rw [if_neg (by omega), cE, if_neg (by simp)]⟩
  unfold rtT
  rw [c0, c1, c2, c3, c5.2, c5.1, c6, c7, prL_rnN, prL_rnN, prL_rnN]
  have hs : IntKind.i64.wrap ((u64N t.start : Nat) : Int) = t.start := wrap_u64N (by omega)
  show (⟨IntKind.i64.wrap ((u64N t.start : Nat) : Int), t.steps, t.shifts, t.sizes, t.keys, !(!t.nok), t.chunks, t.places⟩ : Tab) = t
  rw [hs, Bool.not_not]
end Go.Proofs.Ytlonhkjplijlcaa
namespace Go.Proofs.Ytlonhkjplijlcaa
theorem lies_more {b l : List UInt8} {p : Nat} (m : List UInt8) (h : Lies b p l) : Lies (b ++ m) p l := by
  obtain ⟨h1, h2⟩ := h
  refine ⟨?_, by rw [List.length_append]; omega⟩
  rw [List.drop_append_of_le_length (by omega), List.take_append_of_le_length (by rw [List.length_drop]; omega)]
  exact h1
theorem lies_end (b l : List UInt8) : Lies (b ++ l) b.length l := ⟨by simp, by simp⟩
theorem lies_in {b l m : List UInt8} {p q : Nat} (h : Lies b p l) (h2 : Lies l q m) : Lies b (p + q) m := by
  obtain ⟨h1, h3⟩ := h
  obtain ⟨h4, h5⟩ := h2
  refine ⟨?_, by omega⟩
  have e : l.drop q = (b.drop (p + q)).take (l.length - q) := by
    conv => lhs; rw [← h1]
    rw [List.drop_take, List.drop_drop]
  rw [e, List.take_take, Nat.min_eq_left (by omega)] at h4
  exact h4
def cdL (T : List TrkT) (D : List (List UInt8)) (ch i j : Nat) : List UInt8 := pcB (D.getD i []) (szN ((T.getD i default).smp.take (j * ch))) (szN ((T.getD i default).smp.take (min (j * ch + ch) (T.getD i default).smp.length)))
structure LyI (T : List TrkT) (D : List (List UInt8)) (ch a : Nat) (s : LayS) (i c : Nat) : Prop where
  len : (s.pl.getD i []).length = c
  at_ : ∀ j, j < c → ∃ o : Nat, (s.pl.getD i []).getD j 0 = ((a + o : Nat) : Int) ∧ Lies s.out o (cdL T D ch i j)
section
variable {T : List TrkT} {D : List (List UInt8)} {ch a : Nat}
theorem LyI.other {s : LayS} {n i j c : Nat} (h : LyI T D ch a s j c) (hij : i ≠ j) : LyI T D ch a (layI T D ch a n i s) j c := by
  unfold layI
  split
  · exact h
  · have e : (s.pl.set i (s.pl.getD i [] ++ [((a + s.out.length : Nat) : Int)])).getD j [] = s.pl.getD j [] := by
      simp only [List.getD_eq_getElem?_getD, List.getElem?_set_ne hij]
    refine ⟨by simp only [e]; exact h.len, fun q hq => ?_⟩
    obtain ⟨o, h1, h2⟩ := h.at_ q hq
    exact ⟨o, by simp only [e]; exact h1, lies_more _ h2⟩
theorem LyI.same {s : LayS} {n i : Nat} (h : LyI T D ch a s i n) (hi : i < s.pl.length) (hn : ¬ (T.getD i default).smp.length ≤ n * ch) : LyI T D ch a (layI T D ch a n i s) i (n + 1) := by
  unfold layI
  rw [if_neg hn]
  have e : (s.pl.set i (s.pl.getD i [] ++ [((a + s.out.length : Nat) : Int)])).getD i [] = s.pl.getD i [] ++ [((a + s.out.length : Nat) : Int)] := by
    rw [List.getD_eq_getElem?_getD, List.getElem?_set_self hi, Option.getD_some]
  have hl := h.len
  refine ⟨by simp only [e, List.length_append, hl, List.length_cons, List.length_nil], fun q hq => ?_⟩
  simp only [e]
  by_cases hqn : q = n
  · subst hqn
    refine ⟨s.out.length, ?_, lies_end _ _⟩
    rw [List.getD_eq_getElem?_getD, List.getElem?_append_right (by omega), hl, Nat.sub_self]
    rfl
  · obtain ⟨o, h1, h2⟩ := h.at_ q (by omega)
    refine ⟨o, ?_, lies_more _ h2⟩
    rw [List.getD_eq_getElem?_getD, List.getElem?_append_left (by omega), ← List.getD_eq_getElem?_getD]
    exact h1
def ckI (T : List TrkT) (ch i : Nat) : Nat := ckN (T.getD i default).smp.length ch
theorem lyI_step {s : LayS} {n i : Nat} (hc : 1 ≤ ch) (h : LyI T D ch a s i (min n (ckI T ch i))) (hi : i < s.pl.length) : LyI T D ch a (layI T D ch a n i s) i (min (n + 1) (ckI T ch i)) := by
  have h1 := ckN_lt (n := (T.getD i default).smp.length) (ch := ch) (k := n) hc
  by_cases hn : (T.getD i default).smp.length ≤ n * ch
  · have h2 : ckI T ch i ≤ n := by
      unfold ckI
      have : ¬ n < ckN (T.getD i default).smp.length ch := fun h3 => by have := h1.1 h3; omega
      omega
    unfold layI
    rw [if_pos hn, Nat.min_eq_right (by omega)]
    rw [Nat.min_eq_right h2] at h
    exact h
  · have h2 : n < ckI T ch i := h1.2 (by omega)
    rw [Nat.min_eq_left (by omega)] at h ⊢
    exact h.same hi hn
theorem lyK {s : LayS} {n : Nat} (hc : 1 ≤ ch) (hl : s.pl.length = T.length) (h : ∀ i, i < T.length → LyI T D ch a s i (min n (ckI T ch i))) : ∀ k, k ≤ T.length → ∀ i, i < T.length → LyI T D ch a (layK T D ch a n s k) i (min (if i < k then n + 1 else n) (ckI T ch i))
  | 0, _, i, hi => by rw [if_neg (by omega)]; exact h i hi
  | k + 1, hk, i, hi => by
    have ih := lyK hc hl h k (by omega) i hi
    rw [layK]
    by_cases hik : k = i
    · subst hik
      rw [if_neg (by omega)] at ih
      rw [if_pos (by omega)]
      exact lyI_step hc ih (by rw [layK_len, hl]; exact hi)
    · have e : (if i < k + 1 then n + 1 else n) = (if i < k then n + 1 else n) := by
        by_cases h1 : i < k
        · rw [if_pos h1, if_pos (by omega)]
        · rw [if_neg h1, if_neg (by omega)]
      rw [e]
      exact ih.other hik
theorem lyR (hc : 1 ≤ ch) : ∀ n i, i < T.length → LyI T D ch a (layR T D ch a n) i (min n (ckI T ch i))
  | 0, i, hi => by
    rw [Nat.zero_min]
    refine ⟨?_, fun j hj => absurd hj (Nat.not_lt_zero _)⟩
    rw [layR]
    simp only [List.getD_eq_getElem?_getD, List.getElem?_replicate, hi, if_true]
    rfl
  | n + 1, i, hi => by
    have h := lyK hc (layR_len n) (lyR hc n) T.length (Nat.le_refl _) i hi
    rw [if_pos hi] at h
    exact h
theorem lyF (hc : 1 ≤ ch) (h5 : ∀ i, i < T.length → (T.getD i default).smp.length ≤ 5000) {i : Nat} (hi : i < T.length) : LyI T D ch a (layF T D ch a) i (ckI T ch i) := by
  have h := lyR (T := T) (D := D) (a := a) hc roundsN i hi
  have h1 := h5 i hi
  have h2 := ckN_le (n := (T.getD i default).smp.length) hc
  rw [Nat.min_eq_right (by unfold ckI roundsN; omega)] at h
  exact h
end
theorem addR_app {l : List (Int × Int)} {x : Int} (h : ¬ (0 < l.length ∧ (l.getD (l.length - 1) (0, 0)).2 = x)) : addR l x = l ++ [(1, x)] := by unfold addR; rw [if_neg h]
theorem last_split {l : List (Int × Int)} (h : 0 < l.length) : l = l.take (l.length - 1) ++ [l.getD (l.length - 1) (0, 0)] := by
  have := getD_take l (l.length - 1) (0, 0) (by omega)
  rw [show l.length - 1 + 1 = l.length by omega, List.take_length] at this
  exact this
theorem addR_in {l : List (Int × Int)} {x : Int} (h : 0 < l.length ∧ (l.getD (l.length - 1) (0, 0)).2 = x) : addR l x = l.take (l.length - 1) ++ [((l.getD (l.length - 1) (0, 0)).1 + 1, x)] := by
  unfold addR
  rw [if_pos h]
  generalize hy : (l.getD (l.length - 1) (0, 0)).1 + 1 = y
  have h1 := last_split h.1
  have h2 : (l.take (l.length - 1)).length = l.length - 1 := by rw [List.length_take]; omega
  obtain ⟨m, hm⟩ : ∃ m, m = l.length - 1 := ⟨_, rfl⟩
  rw [← hm] at h1 h2 ⊢
  generalize l.getD m (0, 0) = z at h1
  generalize l.take m = l0 at *
  subst h1
  rw [List.set_append_right _ _ (by omega), h2, Nat.sub_self]
  rfl
theorem valsR_app (a b : List (Int × Int)) : valsR (a ++ b) = valsR a ++ valsR b := by unfold valsR; rw [List.flatMap_append]
theorem valsR_one (c y : Int) : valsR [(c, y)] = List.replicate c.toNat y := by simp [valsR]
theorem valsR_add {l : List (Int × Int)} {x : Int} (h : 0 < l.length → 0 ≤ (l.getD (l.length - 1) (0, 0)).1) : valsR (addR l x) = valsR l ++ [x] := by
  by_cases hc : 0 < l.length ∧ (l.getD (l.length - 1) (0, 0)).2 = x
  · have h1 := last_split hc.1
    have h0 := h hc.1
    rw [addR_in hc, valsR_app, valsR_one]
    have e : valsR l = valsR (l.take (l.length - 1)) ++ List.replicate (l.getD (l.length - 1) (0, 0)).1.toNat x := by
      conv => lhs; rw [h1]
      rw [valsR_app]
      congr 1
      rw [show l.getD (l.length - 1) (0, 0) = ((l.getD (l.length - 1) (0, 0)).1, (l.getD (l.length - 1) (0, 0)).2) from rfl, valsR_one, hc.2]
    rw [e, List.append_assoc]
    congr 1
    rw [show ((l.getD (l.length - 1) (0, 0)).1 + 1).toNat = (l.getD (l.length - 1) (0, 0)).1.toNat + 1 by omega, List.replicate_succ']
  · rw [addR_app hc, valsR_app, valsR_one]; rfl
theorem rowK_vals (f : Smp → Int) (l : List Smp) : ∀ k, k ≤ l.length → valsR (rowK f l k) = mapR k (fun i => f (l.getD i dS))
  | 0, _ => rfl
  | k + 1, hk => by
    have h1 := rowK_bd f l k
    rw [rowK, valsR_add (fun h0 => by have := h1.2 _ (show (rowK f l k).length - 1 < _ by omega); omega), rowK_vals f l k (by omega), mapR_succ]
theorem addR_mem {l : List (Int × Int)} {x : Int} {P : Int → Prop} (h : ∀ i, i < l.length → P (l.getD i (0, 0)).2) (hx : P x) : ∀ i, i < (addR l x).length → P ((addR l x).getD i (0, 0)).2 := by
  intro i hi
  unfold addR at hi ⊢
  split at hi
  · rename_i hc
    rw [if_pos hc]
    rw [List.length_set] at hi
    by_cases hl : i = l.length - 1
    · subst hl
      rw [List.getD_eq_getElem?_getD, List.getElem?_set_self (by omega)]; exact hx
    · rw [List.getD_eq_getElem?_getD, List.getElem?_set_ne (by omega), ← List.getD_eq_getElem?_getD]; exact h i hi
  · rename_i hc
    rw [if_neg hc]
    rw [List.length_append] at hi
    simp only [List.length_cons, List.length_nil] at hi
    by_cases hl : i < l.length
    · rw [List.getD_eq_getElem?_getD, List.getElem?_append_left hl, ← List.getD_eq_getElem?_getD]; exact h i hl
    · obtain rfl : i = l.length := by omega
      rw [List.getD_eq_getElem?_getD, List.getElem?_append_right (Nat.le_refl _)]; simpa using hx
theorem rowK_mem (f : Smp → Int) (l : List Smp) {P : Int → Prop} : ∀ k, (∀ i, i < k → P (f (l.getD i dS))) → ∀ i, i < (rowK f l k).length → P ((rowK f l k).getD i (0, 0)).2
  | 0, _, i, hi => absurd hi (Nat.not_lt_zero _)
  | k + 1, h, i, hi => addR_mem (rowK_mem f l k (fun j hj => h j (by omega))) (h k (Nat.lt_succ_self k)) i hi
theorem rowK_ok {f : Smp → Int} {l : List Smp} {least : Int} (hl : l.length ≤ 5000) (h : ∀ i, i < l.length → least ≤ f (l.getD i dS) ∧ f (l.getD i dS) ≤ 1000000000) : runsF least (rowK f l l.length) = 0 := by
  refine firstF_zero (fun i hi => ?_)
  have h1 := (rowK_bd f l l.length).2 i hi
  have h2 := rowK_mem f l (P := fun x => least ≤ x ∧ x ≤ 1000000000) l.length h i hi
  unfold rnEl badR
  rw [if_neg]
  simp only [Bool.or_eq_true, decide_eq_true_iff]
  omega
theorem rowK_cnt {f : Smp → Int} {l : List Smp} {least : Int} (h : runsF least (rowK f l l.length) = 0) : cntA (rowK f l l.length) = (l.length : Int) := by
  rw [← valsR_all h, rowK_vals f l l.length (Nat.le_refl _), mapR_len]
theorem keyK_bd (l : List Smp) : ∀ k i, i < (keyK l k).length → 1 ≤ (keyK l k).getD i 0 ∧ (keyK l k).getD i 0 ≤ (k : Int) ∧ (0 < i → (keyK l k).getD (i - 1) 0 < (keyK l k).getD i 0)
  | 0, i, hi => absurd hi (Nat.not_lt_zero _)
  | k + 1, i, hi => by
    have ih := keyK_bd l k
    unfold keyK at hi ⊢
    by_cases hk : (l.getD k dS).key = true
    · rw [if_pos hk] at hi ⊢
      rw [List.length_append] at hi
      simp only [List.length_cons, List.length_nil] at hi
      have hl : ∀ j, j < (keyK l k).length → (keyK l k ++ [(k : Int) + 1]).getD j 0 = (keyK l k).getD j 0 := fun j hj => by
        rw [List.getD_eq_getElem?_getD, List.getElem?_append_left hj, ← List.getD_eq_getElem?_getD]
      by_cases h1 : i < (keyK l k).length
      · rw [hl i h1]
        have := ih i h1
        refine ⟨this.1, by omega, fun h2 => ?_⟩
        rw [hl (i - 1) (by omega)]; exact this.2.2 h2
      · obtain rfl : i = (keyK l k).length := by omega
        have e : (keyK l k ++ [(k : Int) + 1]).getD (keyK l k).length 0 = (k : Int) + 1 := by
          rw [List.getD_eq_getElem?_getD, List.getElem?_append_right (Nat.le_refl _)]; simp
        rw [e]
        refine ⟨by omega, by omega, fun h2 => ?_⟩
        rw [hl _ (by omega)]
        have := (ih ((keyK l k).length - 1) (by omega)).2.1
        omega
    · rw [if_neg hk] at hi ⊢
      have := ih i hi
      exact ⟨this.1, by omega, this.2.2⟩
theorem keyK_has (l : List Smp) {i : Nat} : ∀ k, (keyK l k).contains ((i : Int) + 1) = (decide (i < k) && (l.getD i dS).key)
  | 0 => by simp [keyK]
  | k + 1 => by
    have ih := keyK_has l (i := i) k
    unfold keyK
    by_cases hk : (l.getD k dS).key = true
    · rw [if_pos hk, List.contains_append, ih]
      by_cases h1 : i = k
      · subst h1; rw [hk]; simp
      · have h2 : decide (i < k + 1) = decide (i < k) := by simp only [decide_eq_decide]; omega
        have h3 : [(k : Int) + 1].contains ((i : Int) + 1) = false := by simp; omega
        rw [h2, h3, Bool.or_false]
    · rw [if_neg hk, ih]
      by_cases h1 : i = k
      · subst h1; rw [Bool.not_eq_true] at hk; rw [hk]; simp
      · have h2 : decide (i < k + 1) = decide (i < k) := by simp only [decide_eq_decide]; omega
        rw [h2]
theorem chK_get_bd (ch : List Int) : ∀ k i, i < (chK ch k).length → 1 ≤ ((chK ch k).getD i (0, 0)).1 ∧ ((chK ch k).getD i (0, 0)).1 ≤ (k : Int) ∧ (i = 0 → ((chK ch k).getD i (0, 0)).1 = 1) ∧ (0 < i → ((chK ch k).getD (i - 1) (0, 0)).1 < ((chK ch k).getD i (0, 0)).1) ∧ (∃ j, j < k ∧ ((chK ch k).getD i (0, 0)).2 = ch.getD j 0)
  | 0, i, hi => absurd hi (Nat.not_lt_zero _)
  | k + 1, i, hi => by
    have ih := chK_get_bd ch k
    unfold chK at hi ⊢
    by_cases hk : k = 0 ∨ ch.getD k 0 ≠ ch.getD (k - 1) 0
    · rw [if_pos hk] at hi ⊢
      rw [List.length_append] at hi
      simp only [List.length_cons, List.length_nil] at hi
      have hl : ∀ j, j < (chK ch k).length → (chK ch k ++ [((k : Int) + 1, ch.getD k 0)]).getD j (0, 0) = (chK ch k).getD j (0, 0) := fun j hj => by
        rw [List.getD_eq_getElem?_getD, List.getElem?_append_left hj, ← List.getD_eq_getElem?_getD]
      by_cases h1 : i < (chK ch k).length
      · rw [hl i h1]
        obtain ⟨a1, a2, a3, a4, j, a5, a6⟩ := ih i h1
        refine ⟨a1, by omega, a3, fun h2 => ?_, j, by omega, a6⟩
        rw [hl (i - 1) (by omega)]; exact a4 h2
      · obtain rfl : i = (chK ch k).length := by omega
        have e : (chK ch k ++ [((k : Int) + 1, ch.getD k 0)]).getD (chK ch k).length (0, 0) = ((k : Int) + 1, ch.getD k 0) := by
          rw [List.getD_eq_getElem?_getD, List.getElem?_append_right (Nat.le_refl _)]; simp
        rw [e]
        refine ⟨by show (1 : Int) ≤ (k : Int) + 1; omega, by show (k : Int) + 1 ≤ ((k + 1 : Nat) : Int); omega, fun h2 => ?_, fun h2 => ?_, k, by omega, rfl⟩
        · rcases Nat.eq_zero_or_pos k with h3 | h3
          · subst h3; rfl
          · have := (chK_last ch k h3).1; omega
        · rw [hl _ (by omega)]
          have := (ih ((chK ch k).length - 1) (by omega)).2.1
          show _ < (k : Int) + 1
          omega
    · rw [if_neg hk] at hi ⊢
      obtain ⟨a1, a2, a3, a4, j, a5, a6⟩ := ih i hi
      exact ⟨a1, by omega, a3, a4, j, by omega, a6⟩
theorem smOK_app (l r : List (Int × Int)) (c : Int) : ∀ k, k ≤ l.length → smOK (l ++ r) c k = smOK l c k
  | 0, _ => rfl
  | k + 1, hk => by
    have ih := smOK_app l r c k (by omega)
    rw [smOK, smOK, ih, List.getD_eq_getElem?_getD, List.getElem?_append_left (by omega), ← List.getD_eq_getElem?_getD]
theorem smO_snoc (l : List (Int × Int)) (x : Int × Int) (c : Int) : smO (l ++ [x]) c = if x.1 ≤ c then x.2 else smO l c := by
  unfold smO
  rw [List.length_append]
  show smOK (l ++ [x]) c (l.length + 1) = _
  rw [smOK, smOK_app l [x] c l.length (Nat.le_refl _)]
  have e : (l ++ [x]).getD l.length (0, 0) = x := by rw [List.getD_eq_getElem?_getD, List.getElem?_append_right (Nat.le_refl _)]; simp
  rw [e]
theorem chK_smO (ch : List Int) : ∀ (m c : Nat), c < m → smO (chK ch m) ((c : Int) + 1) = ch.getD c 0
  | 0, c, h => absurd h (Nat.not_lt_zero _)
  | m + 1, c, h => by
    have ih := chK_smO ch m
    unfold chK
    by_cases hk : m = 0 ∨ ch.getD m 0 ≠ ch.getD (m - 1) 0
    · rw [if_pos hk, smO_snoc]
      rcases Nat.lt_or_ge c m with h1 | h1
      · rw [if_neg (by show ¬ ((m : Int) + 1 ≤ (c : Int) + 1); omega)]; exact ih c h1
      · obtain rfl : c = m := by omega
        rw [if_pos (Int.le_refl _)]
    · rw [if_neg hk]
      rcases Nat.lt_or_ge c m with h1 | h1
      · exact ih c h1
      · obtain rfl : c = m := by omega
        have h2 : 0 < c := by omega
        have h3 : ch.getD c 0 = ch.getD (c - 1) 0 := by
          by_cases h : ch.getD c 0 = ch.getD (c - 1) 0
          · exact h
          · exact absurd (.inr h) hk
        obtain ⟨h4, h5⟩ := chK_last ch c h2
        have h6 := (chK_get_bd ch c ((chK ch c).length - 1) (by omega)).2.1
        rw [h3, ← h5]
        generalize hL : chK ch c = L at *
        have h7 : smOK L ((c : Int) + 1) (L.length - 1 + 1) = (L.getD (L.length - 1) (0, 0)).2 := by rw [smOK, if_pos (by omega)]
        unfold smO
        rw [← h7]
        congr 1
        omega
theorem allS_chK (ch : List Int) {m : Nat} : ∀ c, c ≤ m → allS (chK ch m) c = sumI ch c
  | 0, _ => rfl
  | c + 1, hc => by rw [allS, sumI, allS_chK ch c (by omega), chK_smO ch m c (by omega)]
end Go.Proofs.Ytlonhkjplijlcaa
