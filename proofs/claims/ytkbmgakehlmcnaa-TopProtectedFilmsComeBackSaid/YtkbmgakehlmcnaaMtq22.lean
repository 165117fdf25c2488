/- Several texts in one: A table is read as it was written, and written as it was read. Plain; make of a slice: its run equation, and that it is an own row of elements alike. Conditions as stated; The memory in which chunks are laid: an array of rows of numbers, rows of numbers beside it, a row of bytes. No condition; Walks: chunksOf (both). Conditions as stated. -/
import Derived.Test.YtkbmgakehlmcnaaMtq21
import Derived.Test.YtkbmgakehlmcnaaMtq20
import Derived.Test.YtkbmgakehlmcnaaMtq00
import Derived.Laws.OwnMore
import Derived.Laws.MakeOwn
import Derived.Test.YtkbmgakehlmcnaaMtq16
import Derived.Test.YtkbmgakehlmcnaaMtq07
import Derived.Lib.MinMax
namespace Go.Proofs.Ytkbmgakehlmcnaa
open Go.RowKit
def Lies (b : List UInt8) (p : Nat) (l : List UInt8) : Prop := (b.drop p).take l.length = l ∧ p + l.length ≤ b.length
theorem lies_app {b l m : List UInt8} {p : Nat} : Lies b p (l ++ m) ↔ Lies b p l ∧ Lies b (p + l.length) m := by
  unfold Lies
  rw [List.length_append]
  constructor
  · rintro ⟨h1, h2⟩
    have h3 := congrArg (List.take l.length) h1
    have h4 := congrArg (List.drop l.length) h1
    rw [List.take_take, show min l.length (l.length + m.length) = l.length by omega, List.take_left' rfl] at h3
    rw [List.drop_take, List.drop_drop, List.drop_left' rfl, show l.length + m.length - l.length = m.length by omega] at h4
    exact ⟨⟨h3, by omega⟩, h4, by omega⟩
  · rintro ⟨⟨h1, h2⟩, h3, h4⟩
    refine ⟨?_, by omega⟩
    rw [List.take_add, h1, List.drop_drop, h3]
theorem lies_all (b : List UInt8) : Lies b 0 b := ⟨by simp, by simp⟩
theorem lies_cut {b l : List UInt8} {p k : Nat} (h : Lies b p l) (hl : l.length = k) : cutB b p (p + k) = l := by
  unfold cutB; rw [show p + k - p = l.length by omega]; exact h.1
theorem rd_lies {b l : List UInt8} {p k : Nat} (h : Lies b p l) (hl : l.length = k) : rdN b k ⟨p, false⟩ = (numB l, ⟨p + k, false⟩) := by
  have h2 := h.2
  rw [rdN_ok rfl (by show k ≤ b.length - p; omega), lies_cut h hl]
theorem wrap_u64N {x : Int} (h : -9223372036854775808 ≤ x ∧ x ≤ 9223372036854775807) : IntKind.i64.wrap ((u64N x : Nat) : Int) = x := by
  rw [u64N_cast, IntKind.wrap_u64, IntKind.wrap_i64]; omega
theorem nm_lies {b : List UInt8} {l : List Int} (hb : ∀ i, i < l.length → -9223372036854775808 ≤ l.getD i 0 ∧ l.getD i 0 ≤ 9223372036854775807) {p : Nat} (h : Lies b p (lsB l)) : ∀ k, k ≤ l.length → nmL b ⟨p, false⟩ k = (l.take k, ⟨p + 8 * k, false⟩)
  | 0, _ => by simp [nmL]
  | k + 1, hk => by
    have ih := nm_lies hb h k (by omega)
    have hk2 : k < l.length := by omega
    have e : lsB l = lsB (l.take k) ++ beN 8 (u64N (l.getD k 0)) ++ lsB (l.drop (k + 1)) := by
      rw [← lsB_take hk2]
      unfold lsB
      rw [← List.flatMap_append, List.take_append_drop]
    rw [e] at h
    have h1 := (lies_app.1 (lies_app.1 h).1).2
    rw [lsB_len, List.length_take, show min k l.length = k by omega] at h1
    have h2 := rd_lies h1 (beN_len 8 _)
    rw [nmL, ih]
    show (l.take k ++ [IntKind.i64.wrap ((rdN b 8 ⟨p + 8 * k, false⟩).1 : Int)], (rdN b 8 ⟨p + 8 * k, false⟩).2) = _
    rw [h2, beN_numB 8 _ (u64N_lt _)]
    show (l.take k ++ [IntKind.i64.wrap ((u64N (l.getD k 0) : Nat) : Int)], (⟨p + 8 * k + 8, false⟩ : Rd)) = _
    rw [wrap_u64N (hb k hk2), getD_take l k 0 hk2, show p + 8 * k + 8 = p + 8 * (k + 1) by omega]
theorem ls_lies {b : List UInt8} {l : List Int} {many each p : Nat} (hb : ∀ i, i < l.length → -9223372036854775808 ≤ l.getD i 0 ∧ l.getD i 0 ≤ 9223372036854775807) (hm : many * each = l.length) (hml : many < 4294967296) (h : Lies b p (liB many l)) : lsF b each ⟨p, false⟩ = (l, ⟨p + (4 + 8 * l.length), false⟩) := by
  unfold liB at h
  obtain ⟨h1, h2⟩ := lies_app.1 h
  rw [beN_len] at h2
  have h3 := rd_lies h1 (beN_len 4 _)
  rw [beN_numB 4 _ hml] at h3
  have h4 : lsH b each ⟨p, false⟩ = (l.length, ⟨p + 4, false⟩) := by
    unfold lsH
    have h5 := h2.2
    rw [lsB_len] at h5
    rw [h3, if_neg (by simp), if_neg (by show ¬ b.length - (p + 4) < many * each * 8; rw [hm]; omega)]
    rw [hm]
  unfold lsF
  rw [h4]
  show nmL b ⟨p + 4, false⟩ l.length = _
  rw [nm_lies hb h2 _ (Nat.le_refl _), List.take_of_length_le (Nat.le_refl _), show p + 4 + 8 * l.length = p + (4 + 8 * l.length) by omega]
theorem prL_rnN : ∀ l : List (Int × Int), prL (rnN l) = l := by
  intro l
  unfold prL
  rw [rnN_len, show 2 * l.length / 2 = l.length by omega]
  have key : ∀ k, k ≤ l.length → prK (rnN l) k = l.take k := by
    intro k
    induction k with
    | zero => intro _; simp [prK]
    | succ k ih =>
      intro hk
      have hk2 : k < l.length := by omega
      rw [prK_succ, ih (by omega), getD_take l k (0, 0) hk2]
      have e : rnN l = rnN (l.take k) ++ ([(l.getD k (0, 0)).1, (l.getD k (0, 0)).2] ++ rnN (l.drop (k + 1))) := by
        rw [← List.append_assoc, ← rnN_take hk2]
        unfold rnN
        rw [← List.flatMap_append, List.take_append_drop]
      have hl : (rnN (l.take k)).length = 2 * k := by rw [rnN_len, List.length_take]; omega
      have g0 : (rnN l).getD (2 * k) 0 = (l.getD k (0, 0)).1 := by
        rw [e, List.getD_eq_getElem?_getD, List.getElem?_append_right (by omega), hl]; simp
      have g1 : (rnN l).getD (2 * k + 1) 0 = (l.getD k (0, 0)).2 := by
        rw [e, List.getD_eq_getElem?_getD, List.getElem?_append_right (by omega), hl, show 2 * k + 1 - 2 * k = 1 by omega]; simp
      rw [g0, g1]
  rw [key _ (Nat.le_refl _), List.take_of_length_le (Nat.le_refl _)]
theorem rnN_rng {l : List (Int × Int)} {P : Int → Prop} (h : ∀ i, i < l.length → P (l.getD i (0, 0)).1 ∧ P (l.getD i (0, 0)).2) : ∀ i, i < (rnN l).length → P ((rnN l).getD i 0) := by
  intro i hi
  have hm : (rnN l).getD i 0 ∈ rnN l := getD_mem _ _ _ hi
  generalize (rnN l).getD i 0 = x at *
  unfold rnN at hm
  obtain ⟨r, hr, hx⟩ := List.mem_flatMap.1 hm
  obtain ⟨j, hj, e⟩ := mem_getD (0, 0) hr
  have := h j hj
  rw [← e] at this
  simp at hx
  rcases hx with hx | hx
  · rw [hx]; exact this.1
  · rw [hx]; exact this.2
theorem el_at {l : List Int} {lo hi : Int} (f : List Int → Nat → Int) (hf : ∀ i, f l i = if l.getD i 0 < lo ∨ hi < l.getD i 0 then 1 else 0) (h : firstF (f l) l.length = 0) {i : Nat} (hi' : i < l.length) : lo ≤ l.getD i 0 ∧ l.getD i 0 ≤ hi := by
  have := firstF_all h i hi'
  rw [hf] at this
  by_cases h1 : l.getD i 0 < lo ∨ hi < l.getD i 0
  · rw [if_pos h1] at this; omega
  · omega
theorem tb_read {t : Tab} (h : tabF t = 0) (hk : t.nok = true → t.keys = []) (hlen : (tabBy t).length ≤ 1000000) : rtF (tabBy t) = 0 ∧ rtT (tabBy t) = t ∧ rtA (tabBy t) = 0 := by
  have R := tab_right h
  have hfew := tab_few R
  obtain ⟨b, hb⟩ : ∃ b, b = tabBy t := ⟨_, rfl⟩
  rw [← hb] at hlen ⊢
  have hL := lies_all b
  have e0 : b = beN 8 (u64N t.start) ++ liB t.steps.length (rnN t.steps) ++ liB t.shifts.length (rnN t.shifts) ++ liB t.sizes.length t.sizes ++ keyB t.nok t.keys ++ liB t.chunks.length (rnN t.chunks) ++ liB t.places.length t.places := hb
  have hL2 : Lies b 0 (beN 8 (u64N t.start) ++ liB t.steps.length (rnN t.steps) ++ liB t.shifts.length (rnN t.shifts) ++ liB t.sizes.length t.sizes ++ keyB t.nok t.keys ++ liB t.chunks.length (rnN t.chunks) ++ liB t.places.length t.places) := by rw [← e0]; exact hL
  obtain ⟨hL5, g6⟩ := lies_app.1 hL2
  obtain ⟨hL4, g5⟩ := lies_app.1 hL5
  obtain ⟨hL3, g4⟩ := lies_app.1 hL4
  obtain ⟨hL2', g3⟩ := lies_app.1 hL3
  obtain ⟨hL1, g2⟩ := lies_app.1 hL2'
  obtain ⟨g0, g1⟩ := lies_app.1 hL1
  simp only [List.length_append, beN_len, liB_len, rnN_len, Nat.zero_add] at g1 g2 g3 g4 g5 g6
  have hst := R.start
  unfold noT at hst
  simp only [decide_eq_false_iff_not] at hst
  have c0 : r0F b = (u64N t.start, ⟨8, false⟩) := by
    unfold r0F; rw [rd_lies g0 (beN_len 8 _), beN_numB 8 _ (u64N_lt _)]
  have rg1 := rnN_rng (l := t.steps) (P := fun x => -9223372036854775808 ≤ x ∧ x ≤ 9223372036854775807) (fun i hi => by have := runs_ok R.steps i hi; exact ⟨by omega, by omega⟩)
  have rg2 := rnN_rng (l := t.shifts) (P := fun x => -9223372036854775808 ≤ x ∧ x ≤ 9223372036854775807) (fun i hi => by have := runs_ok R.shifts i hi; exact ⟨by omega, by omega⟩)
  have rg5 := rnN_rng (l := t.chunks) (P := fun x => -9223372036854775808 ≤ x ∧ x ≤ 9223372036854775807) (fun i hi => by have := (ch_ok R.chunks i hi).1; exact ⟨by omega, by omega⟩)
  have rg3 : ∀ i, i < t.sizes.length → -9223372036854775808 ≤ t.sizes.getD i 0 ∧ t.sizes.getD i 0 ≤ 9223372036854775807 := fun i hi => by
    have := el_at (lo := 0) (hi := 100000) szEl (fun _ => rfl) R.sizes hi; omega
  have rg6 : ∀ i, i < t.places.length → -9223372036854775808 ≤ t.places.getD i 0 ∧ t.places.getD i 0 ≤ 9223372036854775807 := fun i hi => by
    have := el_at (lo := 0) (hi := 1000000) plEl (fun _ => rfl) R.places hi; omega
  have rg4 : ∀ i, i < t.keys.length → -9223372036854775808 ≤ t.keys.getD i 0 ∧ t.keys.getD i 0 ≤ 9223372036854775807 := fun i hi => by
    have h1 := key_at R.keys hi
    have h2 := R.few
    omega
  have c1 : r1F b = (rnN t.steps, ⟨8 + (4 + 8 * (2 * t.steps.length)), false⟩) := by
    unfold r1F; rw [c0]
    have := ls_lies (each := 2) rg1 (by rw [rnN_len]; omega) (by omega) g1
    rw [rnN_len] at this; exact this
  have c2 : r2F b = (rnN t.shifts, ⟨8 + (4 + 8 * (2 * t.steps.length)) + (4 + 8 * (2 * t.shifts.length)), false⟩) := by
    unfold r2F; rw [c1]
    have := ls_lies (each := 2) rg2 (by rw [rnN_len]; omega) (by omega) g2
    rw [rnN_len] at this; exact this
  have c3 : r3F b = (t.sizes, ⟨8 + (4 + 8 * (2 * t.steps.length)) + (4 + 8 * (2 * t.shifts.length)) + (4 + 8 * t.sizes.length), false⟩) := by
    unfold r3F; rw [c2]
    exact ls_lies (each := 1) rg3 (by omega) (by omega) g3
  generalize hp3 : 8 + (4 + 8 * (2 * t.steps.length)) + (4 + 8 * (2 * t.shifts.length)) + (4 + 8 * t.sizes.length) = p3 at *
  have c5 : hasK b = !t.nok ∧ r5F b = (t.keys, ⟨p3 + (keyB t.nok t.keys).length, false⟩) := by
    cases hn : t.nok with
    | true =>
      rw [hn] at g4
      have hk0 := hk hn
      have e1 : keyB true t.keys = [0] := rfl
      rw [e1] at g4
      have h1 := rd_lies (k := 1) g4 rfl
      have h2 : r4F b = (0, ⟨p3 + 1, false⟩) := by
        unfold r4F; rw [c3]; unfold rdF
        show (if (rdN b 1 ⟨p3, false⟩).2.bad = false ∧ 1 < (rdN b 1 ⟨p3, false⟩).1 then _ else _) = _
        rw [h1]; rfl
      have h3 : hasK b = false := by unfold hasK; rw [h2]; rfl
      refine ⟨by rw [h3]; rfl, ?_⟩
      unfold r5F; rw [h3, if_neg (by simp), h2, hk0]; rfl
    | false =>
      rw [hn] at g4
      have e1 : keyB false t.keys = [1] ++ liB t.keys.length t.keys := by unfold keyB; rw [if_neg (by simp)]
      rw [e1] at g4
      obtain ⟨g4a, g4b⟩ := lies_app.1 g4
      have h1 := rd_lies (k := 1) g4a rfl
      have h2 : r4F b = (1, ⟨p3 + 1, false⟩) := by
        unfold r4F; rw [c3]; unfold rdF
        show (if (rdN b 1 ⟨p3, false⟩).2.bad = false ∧ 1 < (rdN b 1 ⟨p3, false⟩).1 then _ else _) = _
        rw [h1]; rfl
      have h3 : hasK b = true := by unfold hasK; rw [h2]; rfl
      refine ⟨by rw [h3]; rfl, ?_⟩
      unfold r5F; rw [h3, if_pos rfl, h2, e1]
      have := ls_lies (each := 1) rg4 (by omega) (by omega) g4b
      rw [List.length_append, liB_len]
      show lsF b 1 ⟨p3 + 1, false⟩ = _
      rw [show p3 + (([1] : List UInt8).length + (4 + 8 * t.keys.length)) = p3 + 1 + (4 + 8 * t.keys.length) by simp; omega]
      exact this
  generalize hp5 : p3 + (keyB t.nok t.keys).length = p5 at *
  have c6 : r6F b = (rnN t.chunks, ⟨p5 + (4 + 8 * (2 * t.chunks.length)), false⟩) := by
    unfold r6F; rw [c5.2]
    have := ls_lies (each := 2) rg5 (by rw [rnN_len]; omega) (by omega) g5
    rw [rnN_len] at this; exact this
  have c7 : r7F b = (t.places, ⟨p5 + (4 + 8 * (2 * t.chunks.length)) + (4 + 8 * t.places.length), false⟩) := by
    unfold r7F; rw [c6]
    exact ls_lies (each := 1) rg6 (by omega) (by omega) g6
  have hbl : b.length = p5 + (4 + 8 * (2 * t.chunks.length)) + (4 + 8 * t.places.length) := by
    have := congrArg List.length e0
    simp only [List.length_append, beN_len, liB_len, rnN_len] at this
    omega
  have cE : rtE b = ⟨p5 + (4 + 8 * (2 * t.chunks.length)) + (4 + 8 * t.places.length), false⟩ := by
    unfold rtE; rw [c7]; unfold rdE; rw [if_neg]
    show ¬ (false = false ∧ p5 + (4 + 8 * (2 * t.chunks.length)) + (4 + 8 * t.places.length) < b.length)
    omega
  refine ⟨by unfold rtF; rw [if_neg (by omega), cE, if_neg (by simp)], ?_, by unfold rtA; rw [if_neg (by omega), cE, if_neg (by simp)]⟩
  unfold rtT
  rw [c0, c1, c2, c3, c5.2, c5.1, c6, c7, prL_rnN, prL_rnN, prL_rnN]
  have hs : IntKind.i64.wrap ((u64N t.start : Nat) : Int) = t.start := wrap_u64N (by omega)
  show (⟨IntKind.i64.wrap ((u64N t.start : Nat) : Int), t.steps, t.shifts, t.sizes, t.keys, !(!t.nok), t.chunks, t.places⟩ : Tab) = t
  rw [hs, Bool.not_not]
theorem made_flat {α : Type} {enc : α → List Value} {z : Array Value} {x : α} {sz : Nat} (hz : enc x = z.toList) (hs : z.size = sz) (h0 : 0 < sz) (m : Nat) : (madeCells z (m * sz)).toList = (List.replicate m x).flatMap enc := by
  subst hs
  apply List.ext_getElem?
  intro i
  have hl : ∀ m, ((List.replicate m x).flatMap enc).length = m * z.size := by
    intro m
    induction m with
    | zero => simp
    | succ m ih => rw [List.replicate_succ, List.flatMap_cons, List.length_append, ih, hz]; simp [Nat.add_mul]; omega
  by_cases hi : i < m * z.size
  · have hq : i / z.size < m := Nat.div_lt_of_lt_mul (by rw [Nat.mul_comm]; exact hi)
    have hr : i % z.size < z.size := Nat.mod_lt _ h0
    have he : i / z.size * z.size + i % z.size = i := by rw [Nat.mul_comm]; exact Nat.div_add_mod i _
    have key : ∀ (m q r : Nat), q < m → r < z.size → ((List.replicate m x).flatMap enc)[q * z.size + r]? = some (z[r]!) := by
      intro m
      induction m with
      | zero => intro q r hq _; omega
      | succ m ih =>
        intro q r hq hr
        rw [List.replicate_succ, List.flatMap_cons]
        have hln : (enc x).length = z.size := by rw [hz]; simp
        cases q with
        | zero =>
          rw [List.getElem?_append_left (by rw [hln]; omega), hz]
          simp [hr]
        | succ q =>
          rw [List.getElem?_append_right (by rw [hln, Nat.add_mul]; omega), hln, show (q + 1) * z.size + r - z.size = q * z.size + r by rw [Nat.add_mul]; omega]
          exact ih q r (by omega) hr
    have := key m (i / z.size) (i % z.size) hq hr
    rw [he] at this
    rw [this]
    unfold madeCells
    simp [hi, hr]
  · rw [List.getElem?_eq_none (by rw [Array.length_toList, size_madeCells]; omega), List.getElem?_eq_none (by rw [hl]; omega)]
theorem made_own {α : Type} {enc : α → List Value} {z : Array Value} {x : α} {sz : Nat} {t : TypeId} (hz : enc x = z.toList) (hs : z.size = sz) (h0 : 0 < sz) (W : World) (base m : Nat) (hb : base ≤ W.heap.size) (hm : m ≤ maxLen) :
    Own (W.alloc (.cells (madeCells z (m * sz)) t)) base t sz enc (.slice (some ⟨W.heap.size, 0, none⟩) m m) (List.replicate m x) := by
  have := World.ownsRow_lit (base := base) (size := sz) (e := t) W (madeCells z (m * sz)) m hb hm (size_madeCells _ _)
  rw [made_flat hz hs h0] at this
  unfold Own
  rw [List.length_replicate]
  exact this
theorem made_run {P : Program} (t e : TypeId) (i : TypeInfo) (z : Value) {sz bytes : Nat} (ht : P.underlying t = some (.slice e)) (hi : P.info? e = some i) (hz : i.zero = some z) (hs : i.size = sz) (hby : i.bytes = bytes) (m : Nat) (h1 : bytes * m ≤ 281474976710656) (h2 : m ≤ 9223372036854775807) :
    ∀ W : World, (Instr.makeSlice t (.int .i64 (m : Int)) (.int .i64 (m : Int))).run P W = .ok (.slice (some ⟨W.heap.size, 0, none⟩) m m) (W.alloc (.cells (madeCells z.cells (m * sz)) e)) := fun W => by
  have := run_make (P := P) W t e i z ht hi hz .i64 .i64 (m : Int) (m : Int) (by omega) (Int.le_refl _) (by rw [hby]; rw [← Int.natCast_mul]; omega) (by omega)
  rw [hs] at this
  simpa using this
abbrev rwV (h : Option Addr × Nat × Nat) : Value := .slice h.1 h.2.1 h.2.2
abbrev dR : Option Addr × Nat × Nat := (none, 0, 0)
abbrev dI : Nat × List Int := (0, [])
structure LaM (w0 W : World) (gp m : Nat) (hs : List (Option Addr × Nat × Nat)) (pl : List (List Int)) (S : List (Nat × List Int)) (v : Value) (out : List UInt8) : Prop where
  ext : Ext w0 W
  pls : Own W w0.heap.size 79 1 eB1 (.slice (some ⟨gp, 0, none⟩) m m) hs
  plen : pl.length = m
  rows : ∀ i, i < m → Own W w0.heap.size 3 1 e64 (rwV (hs.getD i dR)) (pl.getD i [])
  ints : ∀ j, j < S.length → Own W w0.heap.size 3 1 e64 (.slice (some ⟨(S.getD j dI).1, 0, none⟩) m m) (S.getD j dI).2
  out_ : Own W w0.heap.size 5 1 e8 v out
  a1 : ∀ j, j < S.length → (S.getD j dI).1 ≠ gp
  a2 : ∀ j k, j < S.length → k < S.length → j ≠ k → (S.getD j dI).1 ≠ (S.getD k dI).1
  a3 : ∀ i, i < m → ∀ g, (rwV (hs.getD i dR)).ownBlock = some g → g ≠ gp ∧ (∀ j, j < S.length → (S.getD j dI).1 ≠ g) ∧ v.ownBlock ≠ some g ∧ ∀ k, k < m → k ≠ i → (rwV (hs.getD k dR)).ownBlock ≠ some g
  a4 : ∀ g, v.ownBlock = some g → g ≠ gp ∧ ∀ j, j < S.length → (S.getD j dI).1 ≠ g
section
variable {w0 W : World} {gp m : Nat} {hs : List (Option Addr × Nat × Nat)} {pl : List (List Int)} {S : List (Nat × List Int)} {v : Value} {out : List UInt8}
theorem LaM.extW (h : LaM w0 W gp m hs pl S v out) {W' : World} (he : Ext W W') : LaM w0 W' gp m hs pl S v out :=
  ⟨Ext.trans h.ext he, h.pls.ext he, h.plen, fun i hi => (h.rows i hi).ext he, fun j hj => (h.ints j hj).ext he, h.out_.ext he, h.a1, h.a2, h.a3, h.a4⟩
theorem LaM.hlen (h : LaM w0 W gp m hs pl S v out) : hs.length = m := (h.pls.atS len_eB1).len
theorem LaM.slt (h : LaM w0 W gp m hs pl S v out) {j : Nat} (hj : j < S.length) : w0.heap.size ≤ (S.getD j dI).1 ∧ (S.getD j dI).1 < W.heap.size := (h.ints j hj).lt _ rfl
theorem getD_set {α : Type} {l : List α} {i j : Nat} {x d : α} (hi : i < l.length) : (l.set i x).getD j d = if i = j then x else l.getD j d := by
  simp only [List.getD_eq_getElem?_getD, List.getElem?_set]
  by_cases hij : i = j
  · subst hij; simp [hi]
  · simp [hij]
theorem LaM.setS (h : LaM w0 W gp m hs pl S v out) {j : Nat} (hj : j < S.length) (k : Nat) (x : Int) :
    LaM w0 (W.setCell ⟨(S.getD j dI).1, k, none⟩ (.int .i64 x)) gp m hs pl (S.set j ((S.getD j dI).1, (S.getD j dI).2.set k x)) v out := by
  have hT : Tw W (W.setCell ⟨(S.getD j dI).1, k, none⟩ (.int .i64 x)) (S.getD j dI).1 none := Tw.set_ _ _ _ _ _
  have hlt := h.slt hj
  have hblk : ∀ q, ((S.set j ((S.getD j dI).1, (S.getD j dI).2.set k x)).getD q dI).1 = (S.getD q dI).1 := fun q => by
    rw [getD_set hj]; split
    · subst_vars; rfl
    · rfl
  refine ⟨⟨hT.os.trans h.ext.os, hT.tape.trans h.ext.tape, hT.output.trans h.ext.output, Nat.le_trans h.ext.size hT.size, fun q hq => (hT.block q (Nat.lt_of_lt_of_le hq h.ext.size) (by omega) (by simp)).trans (h.ext.block q hq)⟩,
    h.pls.tw hT (fun e => by injection e with e; exact h.a1 j hj e.symm) (fun g _ e => by cases e), h.plen,
    fun i hi => (h.rows i hi).tw hT (fun e => (h.a3 i hi _ e).2.1 j hj rfl) (fun g _ e => by cases e), fun q hq => ?_,
    h.out_.tw hT (fun e => (h.a4 _ e).2 j hj rfl) (fun g _ e => by cases e), fun q hq => ?_, fun q r hq hr hne => ?_, fun i hi g hg => ?_, fun g hg => ?_⟩
  · rw [List.length_set] at hq
    rw [hblk, getD_set hj]
    by_cases hjq : j = q
    · subst hjq
      rw [if_pos rfl]
      exact (h.ints j hj).set1 len_e64 k x _ rfl
    · rw [if_neg hjq]
      exact (h.ints q hq).tw hT (fun e => by injection e with e; exact h.a2 q j hq hj (Ne.symm hjq) e) (fun g _ e => by cases e)
  · rw [List.length_set] at hq; rw [hblk]; exact h.a1 q hq
  · rw [List.length_set] at hq hr; rw [hblk, hblk]; exact h.a2 q r hq hr hne
  · obtain ⟨b1, b2, b3, b4⟩ := h.a3 i hi g hg
    exact ⟨b1, fun q hq => by rw [List.length_set] at hq; rw [hblk]; exact b2 q hq, b3, b4⟩
  · obtain ⟨b1, b2⟩ := h.a4 g hg
    exact ⟨b1, fun q hq => by rw [List.length_set] at hq; rw [hblk]; exact b2 q hq⟩
theorem LaM.app (h : LaM w0 W gp m hs pl S v out) {i : Nat} (hi : i < m) {Wa W6 : World} {x : Int} {A : Option Addr} {n c : Nat} (he : Ext W Wa) (ho : Own W6 w0.heap.size 3 1 e64 (.slice A n c) (pl.getD i [] ++ [x]))
    (hg : Wa.grownBy W6 (rwV (hs.getD i dR)).ownBlock) (hr : (Value.slice A n c).ownBlock = (rwV (hs.getD i dR)).ownBlock ∨ (Value.slice A n c).ownBlock = some Wa.heap.size) :
    LaM w0 (W6.setCell ⟨gp, i, none⟩ (.slice A n c)) gp m (hs.set i (A, n, c)) (pl.set i (pl.getD i [] ++ [x])) S v out := by
  have hl := h.hlen
  have hpl := h.plen
  have s1 := he.size
  have s2 := hg.size
  have hT : Tw W6 (W6.setCell ⟨gp, i, none⟩ (.slice A n c)) gp none := Tw.set_ _ _ _ _ _
  have hTg : Tw Wa W6 Wa.heap.size (rwV (hs.getD i dR)).ownBlock := Tw.of_grown hg
  have hgp := h.pls.lt gp rfl
  have far : ∀ {α : Type} {t : TypeId} {sz : Nat} {enc : α → List Value} {u : Value} {xs : List α}, Own W w0.heap.size t sz enc u xs → (∀ g, u.ownBlock = some g → (rwV (hs.getD i dR)).ownBlock ≠ some g) → Own W6 w0.heap.size t sz enc u xs := fun hu hne =>
    (hu.ext he).tw hTg (fun e => by have := (hu.lt _ e).2; omega) (fun g hg2 e => hne g hg2 e)
  have hne : ∀ g, (Value.slice A n c).ownBlock = some g → g ≠ gp ∧ (∀ j, j < S.length → (S.getD j dI).1 ≠ g) ∧ v.ownBlock ≠ some g ∧ ∀ k, k < m → k ≠ i → (rwV (hs.getD k dR)).ownBlock ≠ some g := fun g hg2 => by
    rcases hr with hr | hr
    · exact h.a3 i hi g (by rw [← hr]; exact hg2)
    · rw [hr] at hg2
      injection hg2 with hg2
      subst hg2
      refine ⟨by omega, fun j hj => ?_, fun e => ?_, fun k hk _ e => ?_⟩
      · have := (h.slt hj).2; omega
      · have := (h.out_.lt _ e).2; omega
      · have := ((h.rows k hk).lt _ e).2; omega
  have hnb : (Value.slice A n c).ownBlock ≠ some gp := fun e => (hne gp e).1 rfl
  have e6 : Ext w0 W6 := by
    refine ⟨hg.os.trans (he.os.trans h.ext.os), hg.tape.trans (he.tape.trans h.ext.tape), hg.output.trans (he.output.trans h.ext.output), Nat.le_trans h.ext.size (Nat.le_trans s1 s2), fun q hq => ?_⟩
    have h1 := h.ext.size
    exact (hg.block q (by omega) (fun e => by have := (h.rows i hi).lt q e.symm; omega)).trans ((he.block q (by omega)).trans (h.ext.block q hq))
  refine ⟨⟨hT.os.trans e6.os, hT.tape.trans e6.tape, hT.output.trans e6.output, Nat.le_trans e6.size hT.size, fun q hq => (hT.block q (Nat.lt_of_lt_of_le hq e6.size) (by omega) (by simp)).trans (e6.block q hq)⟩,
    (far h.pls (fun g e e2 => by injection e with e; exact (h.a3 i hi g e2).1 e.symm)).set1 len_eB1 i (A, n, c) _ rfl, by rw [List.length_set, hpl], fun k hk => ?_, fun j hj => ?_, ?_, h.a1, h.a2, fun k hk g hg2 => ?_, fun g hg2 => ?_⟩
  · rw [getD_set (by omega), getD_set (by omega)]
    by_cases hik : i = k
    · subst hik
      rw [if_pos rfl, if_pos rfl]
      exact ho.tw hT hnb (fun g _ e => by cases e)
    · rw [if_neg hik, if_neg hik]
      exact (far (h.rows k hk) (fun g e e2 => (h.a3 i hi g e2).2.2.2 k hk (Ne.symm hik) e)).tw hT (fun e => (h.a3 k hk _ e).1 rfl) (fun g _ e => by cases e)
  · exact (far (h.ints j hj) (fun g e e2 => by injection e with e; exact (h.a3 i hi g e2).2.1 j hj e)).tw hT (fun e => by injection e with e; exact h.a1 j hj e) (fun g _ e => by cases e)
  · exact (far h.out_ (fun g e e2 => (h.a3 i hi g e2).2.2.1 e)).tw hT (fun e => (h.a4 _ e).1 rfl) (fun g _ e => by cases e)
  · rw [getD_set (by omega)] at hg2
    by_cases hik : i = k
    · subst hik
      rw [if_pos rfl] at hg2
      obtain ⟨b1, b2, b3, b4⟩ := hne g hg2
      refine ⟨b1, b2, b3, fun q hq hqi => ?_⟩
      rw [getD_set (by omega), if_neg (Ne.symm hqi)]
      exact b4 q hq hqi
    · rw [if_neg hik] at hg2
      obtain ⟨b1, b2, b3, b4⟩ := h.a3 k hk g hg2
      refine ⟨b1, b2, b3, fun q hq hqk => ?_⟩
      rw [getD_set (by omega)]
      by_cases hiq : i = q
      · rw [if_pos hiq]
        intro e
        have e2 : (Value.slice A n c).ownBlock = some g := e
        exact (hne g e2).2.2.2 k hk (Ne.symm hik) hg2
      · rw [if_neg hiq]; exact b4 q hq hqk
  · exact h.a4 g hg2
theorem LaM.appOut (h : LaM w0 W gp m hs pl S v out) {Wa W6 : World} {v' : Value} {out' : List UInt8} (he : Ext W Wa) (ho : Own W6 w0.heap.size 5 1 e8 v' out')
    (hg : Wa.grownBy W6 v.ownBlock) (hr : v'.ownBlock = v.ownBlock ∨ v'.ownBlock = some Wa.heap.size) : LaM w0 W6 gp m hs pl S v' out' := by
  have s1 := he.size
  have s2 := hg.size
  have hTg : Tw Wa W6 Wa.heap.size v.ownBlock := Tw.of_grown hg
  have hgp := h.pls.lt gp rfl
  have far : ∀ {α : Type} {t : TypeId} {sz : Nat} {enc : α → List Value} {u : Value} {xs : List α}, Own W w0.heap.size t sz enc u xs → (∀ g, u.ownBlock = some g → v.ownBlock ≠ some g) → Own W6 w0.heap.size t sz enc u xs := fun hu hne =>
    (hu.ext he).tw hTg (fun e => by have := (hu.lt _ e).2; omega) (fun g hg2 e => hne g hg2 e)
  have e6 : Ext w0 W6 := by
    refine ⟨hg.os.trans (he.os.trans h.ext.os), hg.tape.trans (he.tape.trans h.ext.tape), hg.output.trans (he.output.trans h.ext.output), Nat.le_trans h.ext.size (Nat.le_trans s1 s2), fun q hq => ?_⟩
    have h1 := h.ext.size
    exact (hg.block q (by omega) (fun e => by have := h.out_.lt q e.symm; omega)).trans ((he.block q (by omega)).trans (h.ext.block q hq))
  refine ⟨e6, far h.pls (fun g e e2 => by injection e with e; exact (h.a4 g e2).1 e.symm), h.plen, fun i hi => far (h.rows i hi) (fun g e => (h.a3 i hi g e).2.2.1), fun j hj => far (h.ints j hj) (fun g e e2 => by injection e with e; exact (h.a4 g e2).2 j hj e), ho, h.a1, h.a2, fun i hi g hg2 => ?_, fun g hg2 => ?_⟩
  · obtain ⟨b1, b2, b3, b4⟩ := h.a3 i hi g hg2
    refine ⟨b1, b2, fun e => ?_, b4⟩
    rcases hr with hr | hr
    · exact b3 (by rw [← hr]; exact e)
    · rw [hr] at e; injection e with e; have := ((h.rows i hi).lt g hg2).2; omega
  · rcases hr with hr | hr
    · exact h.a4 g (by rw [← hr]; exact hg2)
    · rw [hr] at hg2
      injection hg2 with hg2
      subst hg2
      exact ⟨by omega, fun j hj => by have := (h.slt hj).2; omega⟩
end
def ckK (n ch : Nat) : Nat → List Int
  | 0 => []
  | k + 1 => ckK n ch k ++ [((min ch (n - k * ch) : Nat) : Int)]
theorem ckK_len (n ch : Nat) : ∀ k, (ckK n ch k).length = k
  | 0 => rfl
  | k + 1 => by rw [ckK, List.length_append, ckK_len n ch k]; rfl
def ckN (n ch : Nat) : Nat := (n + ch - 1) / ch
def ckL (n ch : Nat) : List Int := ckK n ch (ckN n ch)
theorem ckN_at {n ch k : Nat} (hc : 1 ≤ ch) (h1 : k = 0 ∨ (k - 1) * ch < n) (h2 : n ≤ k * ch) : ckN n ch = k := by
  unfold ckN
  rcases Nat.eq_zero_or_pos k with h0 | h0
  · subst h0
    have : n = 0 := by omega
    subst this
    rw [Nat.div_eq_of_lt (by omega)]
  · obtain ⟨j, rfl⟩ : ∃ j, k = j + 1 := ⟨k - 1, by omega⟩
    have h3 : j * ch < n := by rcases h1 with h1 | h1; omega; simpa using h1
    rw [Nat.succ_mul] at h2
    rw [Nat.div_eq_of_lt_le]
    · rw [Nat.succ_mul]; omega
    · rw [Nat.succ_mul, Nat.succ_mul]; omega
theorem ckN_lt {n ch k : Nat} (hc : 1 ≤ ch) : k < ckN n ch ↔ k * ch < n := by
  unfold ckN
  constructor
  · intro h
    have h1 : (k + 1) * ch ≤ n + ch - 1 := by
      have := (Nat.le_div_iff_mul_le (by omega)).1 (show k + 1 ≤ (n + ch - 1) / ch from h)
      exact this
    rw [Nat.succ_mul] at h1
    omega
  · intro h
    have : (k + 1) ≤ (n + ch - 1) / ch := (Nat.le_div_iff_mul_le (by omega)).2 (by rw [Nat.succ_mul]; omega)
    exact this
theorem ckK_get {n ch : Nat} : ∀ {m k : Nat}, k < m → (ckK n ch m).getD k 0 = ((min ch (n - k * ch) : Nat) : Int)
  | 0, k, h => absurd h (Nat.not_lt_zero _)
  | m + 1, k, h => by
    rw [ckK]
    simp only [List.getD_eq_getElem?_getD]
    by_cases hk : k < m
    · rw [List.getElem?_append_left (by rw [ckK_len]; exact hk)]
      have := ckK_get (n := n) (ch := ch) hk
      simpa [List.getD_eq_getElem?_getD] using this
    · obtain rfl : k = m := by omega
      rw [List.getElem?_append_right (by rw [ckK_len]; omega), ckK_len]
      simp
theorem ckN_le {n ch : Nat} (hc : 1 ≤ ch) : ckN n ch ≤ n := by
  rcases Nat.eq_zero_or_pos (ckN n ch) with h | h
  · omega
  · have h1 : ckN n ch - 1 < ckN n ch := by omega
    rw [ckN_lt hc] at h1
    have h2 : (ckN n ch - 1) * 1 ≤ (ckN n ch - 1) * ch := Nat.mul_le_mul_left _ hc
    omega
def NewI (w : World) (l : List Int) (e : Ending) (w' : World) : Prop := ∃ v, e = .returned v ∧ Own w' w.heap.size 3 1 e64 v l ∧ Ext w w'
theorem ckN_bd {n ch k : Nat} (hc2 : ch ≤ 1000) (hk : k = 0 ∨ (k - 1) * ch < n) : k * ch ≤ n + 1000 := by
  rcases hk with h | h
  · subst h; omega
  · cases k with
    | zero => omega
    | succ j => rw [Nat.succ_mul]; simp only [Nat.add_sub_cancel] at h; omega
set_option linter.unusedVariables false in
set_option maxRecDepth 100000 in
set_option maxHeartbeats 4000000 in
theorem keyChunks_any {u0 u1 u3 : Value} {sA : Option Addr} {n sc : Nat} {ch : Nat} {w : World} (hn : n ≤ 5000) (hc : 1 ≤ ch) (hc2 : ch ≤ 1000) :
    Calls Try.prog 50 #[.agg #[u0, u1, .slice sA n sc, u3], .int .i64 (ch : Int)] w (NewI w (ckL n ch)) := by
  have X0 := hide (Blk.new w 47 #[u0, u1, .slice sA n sc, u3])
  have E0 := hide (Ext.alloc w (.cells #[u0, u1, .slice sA n sc, u3] 47))
  obtain ⟨i0_, hi0, hz0, hz1, hz2⟩ := info_parts Try.info3
  have HEND := hide (fun (k : Nat) (h1 : k = 0 ∨ (k - 1) * ch < n) (h2 : n ≤ k * ch) => (by unfold ckL; rw [ckN_at hc h1 h2] : ckL n ch = ckK n ch k))
  have HLN := hide (fun k => ckK_len n ch k)
  go_enter Try.func50, Try.ntmps50
  go_upto_region 2 with (fail)
  refine gen_wpC fun w0 h0 => ?_
  rw [← h0] at X0 E0
  clear h0
  have x2 : w0.cell? ⟨w.heap.size, 2, none⟩ = some (.slice sA n sc) := X0.out.cell 2
  go_wp2_with fail
  clear x2
  go_loopw [5, 6] (fun r5 r6 wr => ∃ (k p : Nat) (v : Value), v = r5 ∧ r6 = .int .i64 ((n : Int) - (p : Int)) ∧ k * ch = p ∧ (k = 0 ∨ (k - 1) * ch < n) ∧ Hid (Own wr w.heap.size 3 1 e64 v (ckK n ch k)) ∧ Hid (Ext w wr)) (fun _ r6 _ => (intOf r6).toNat)
  case atStart => exact ⟨0, 0, _, rfl, by simp, by simp, .inl rfl, hide (by rw [ckK]; exact Own.nil _ _ _ _ _), E0⟩
  case round =>
    obtain ⟨k, p, v, rfl, rfl, hp, hk1, HO, HX⟩ := hrel
    have hkb := ckN_bd hc2 hk1
    have HSU : Hid (ckK n ch (k + 1) = ckK n ch k ++ [((min ch (n - k * ch) : Nat) : Int)]) := hide rfl
    have hkl : k * 1 ≤ k * ch := Nat.mul_le_mul_left _ hc
    have HKS := hide (Nat.succ_mul k ch)
    have HE := hide (HEND.out k hk1)
    have HP := hide hp
    rw [hp] at hkb HSU hkl HKS HE
    clear hp
    have HLK := hide (HLN.out k)
    by_cases hlt : p < n
    · have i1 : (0 : Int) < (n : Int) - (p : Int) := by omega
      have hmn : min ((n : Int) - (p : Int)) (ch : Int) = ((min ch (n - p) : Nat) : Int) := by omega
      have S1 : Hid ((ckK n ch k).length + 1 ≤ maxLen) := hide (by rw [HLK.out]; unfold maxLen; omega)
      have S2 : Hid (((ckK n ch k).length + 1) * 8 ≤ 140737488355328) := hide (by rw [HLK.out]; omega)
      have S3 : Hid (∀ x : Int, w.heap.size ≤ (wr.alloc (.cells #[.int .i64 x] 3)).heap.size) := hide (fun x => by rw [World.size_alloc]; have := HX.out.size; omega)
      have i8 : IntKind.i64.wrap ((n : Int) - (p : Int) - (ch : Int)) = (n : Int) - ((p + ch : Nat) : Int) := by rw [IntKind.wrap_i64]; omega
      have HRL : Hid ((k + 1) * ch = p + ch ∧ (k + 1 = 0 ∨ (k + 1 - 1) * ch < n)) := hide ⟨HKS.out, .inr (by simp only [Nat.add_sub_cancel, HP.out]; exact hlt)⟩
      generalize ((min ch (n - p) : Nat) : Int) = x at *
      go_wp2_with (at_builtin; refine wpList_append_at _ rfl (.tmp 15) (.tmp 19) 79 rfl w.heap.size 3 i0_ _ 8 Try.underlying79 hi0 hz0 hz1 hz2 rfl (by omega) len_e64 one_e64 _ _ (by rfl) (HO.out.ext (Ext.alloc _ _)) (some ⟨wr.heap.size, 0, none⟩) 1 1 [x] (by rfl) (At.new1 wr x _ rfl _) S1.out S2.out (S3.out x) ?_; intro v7 w7 o7 g7 n7 r7; have O7 := hide o7; have G7 := hide (Own.below (w0 := w) (HO.out.ext (Ext.alloc wr (.cells #[.int .i64 x] 3))) (Ext.trans HX.out (Ext.alloc _ _)) g7 (Nat.le_refl _)); clear o7 g7 n7 r7)
      exact ⟨⟨k + 1, p + ch, _, rfl, by first | rfl | rw [i8], HRL.out.1, HRL.out.2, hide (by rw [HSU.out]; exact O7.out), G7⟩, by simp [intOf]; omega⟩
    · have hE := HE.out (by omega)
      have HF := hide hE
      have i1 : ¬ (0 : Int) < (n : Int) - (p : Int) := by omega
      clear hE
      go_wp2_with fail
      go_ret
      exact ⟨_, rfl, by rw [HF.out]; exact HO.out, HX.out⟩
end Go.Proofs.Ytkbmgakehlmcnaa
