/- Reading a fragment, in plain words. Plain. -/
import Derived.Test.YtccmbokodifdoaaRdP
import Derived.Test.YtccmbokodifdoaaFbyP
namespace Go.Proofs.Ytccmbokodifdoaa
/-- A column of numbers; 'one': the first for all. -/
def colF (b : List UInt8) (one : Bool) : Nat → Rd → List Nat × Rd
  | 0, s => ([], s)
  | k + 1, s => if 0 < k ∧ one = true then ((colF b one k s).1 ++ [(colF b one k s).1.getD 0 0], (colF b one k s).2) else ((colF b one k s).1 ++ [(rdN b 4 (colF b one k s).2).1], (rdN b 4 (colF b one k s).2).2)
/-- What four bytes say with a sign. -/
def sgn4 (v : Nat) : Int := if v < 2147483648 then (v : Int) else (v : Int) - 4294967296
def colO (b : List UInt8) (no : Bool) (k : Nat) (s : Rd) : List Int × Rd := if no = true then (List.replicate k 0, s) else ((colF b false k s).1.map sgn4, (colF b false k s).2)
def keyF (b : List UInt8) (first : Bool) : Nat → Rd → List Bool × Rd
  | 0, s => ([], s)
  | k + 1, s => if first = true then ((keyF b first k s).1 ++ [decide (k = 0)], (keyF b first k s).2) else ((keyF b first k s).1 ++ [decide ((rdF b 1 (keyF b first k s).2).1 = 1)], (rdF b 1 (keyF b first k s).2).2)
theorem colF_len (b : List UInt8) (one : Bool) (s : Rd) : ∀ k, (colF b one k s).1.length = k
  | 0 => rfl
  | k + 1 => by
    have := colF_len b one s k
    rw [colF]; split <;> simp [this]
theorem colO_len (b : List UInt8) (no : Bool) (s : Rd) (k : Nat) : (colO b no k s).1.length = k := by
  unfold colO; split
  · simp
  · simp [colF_len]
theorem keyF_len (b : List UInt8) (first : Bool) (s : Rd) : ∀ k, (keyF b first k s).1.length = k
  | 0 => rfl
  | k + 1 => by
    have := keyF_len b first s k
    rw [keyF]; split <;> simp [this]
theorem colF_pos {b : List UInt8} {one : Bool} {s : Rd} (h : s.pos ≤ b.length) : ∀ k, (colF b one k s).2.pos ≤ b.length
  | 0 => h
  | k + 1 => by
    have := colF_pos (one := one) h k
    rw [colF]; split
    · exact this
    · exact rdN_pos this
theorem colO_pos {b : List UInt8} {no : Bool} {s : Rd} (h : s.pos ≤ b.length) (k : Nat) : (colO b no k s).2.pos ≤ b.length := by
  unfold colO; split
  · exact h
  · exact colF_pos h k
theorem keyF_pos {b : List UInt8} {first : Bool} {s : Rd} (h : s.pos ≤ b.length) : ∀ k, (keyF b first k s).2.pos ≤ b.length
  | 0 => h
  | k + 1 => by
    have := keyF_pos (first := first) h k
    rw [keyF]; split
    · exact this
    · exact rdF_pos this
theorem colF_bad {b : List UInt8} {one : Bool} {s : Rd} (h : s.bad = true) : ∀ k, (colF b one k s).2 = s
  | 0 => rfl
  | k + 1 => by
    have := colF_bad (b := b) (one := one) h k
    rw [colF]; split
    · exact this
    · rw [this, rdN_stays h]
theorem colO_bad {b : List UInt8} {no : Bool} {s : Rd} (h : s.bad = true) (k : Nat) : (colO b no k s).2 = s := by
  unfold colO; split
  · rfl
  · exact colF_bad h k
theorem keyF_bad {b : List UInt8} {first : Bool} {s : Rd} (h : s.bad = true) : ∀ k, (keyF b first k s).2 = s
  | 0 => rfl
  | k + 1 => by
    have := keyF_bad (b := b) (first := first) h k
    rw [keyF]; split
    · exact this
    · rw [this, rdF_stays h]
theorem rdE_bad {b : List UInt8} {s : Rd} (h : s.bad = true) : rdE b s = s := by unfold rdE; rw [if_neg (by rw [h]; simp)]
/-- Once something is wrong it stays so at a greater number of elements. -/
theorem colF_more {b : List UInt8} {one : Bool} {s : Rd} {k : Nat} (h : (colF b one k s).2.bad = true) : ∀ n, k ≤ n → (colF b one n s).2 = (colF b one k s).2
  | 0, hn => by rw [show k = 0 by omega]
  | n + 1, hn => by
    rcases Nat.eq_or_lt_of_le hn with h1 | h1
    · rw [h1]
    · have ih := colF_more (n := n) h (by omega)
      rw [colF]; split
      · exact ih
      · rw [ih, rdN_stays h]
theorem keyF_more {b : List UInt8} {first : Bool} {s : Rd} {k : Nat} (h : (keyF b first k s).2.bad = true) : ∀ n, k ≤ n → (keyF b first n s).2 = (keyF b first k s).2
  | 0, hn => by rw [show k = 0 by omega]
  | n + 1, hn => by
    rcases Nat.eq_or_lt_of_le hn with h1 | h1
    · rw [h1]
    · have ih := keyF_more (n := n) h (by omega)
      rw [keyF]; split
      · exact ih
      · rw [ih, rdF_stays h]
theorem colF_lt {b : List UInt8} {one : Bool} (s : Rd) : ∀ k, ∀ x ∈ (colF b one k s).1, x < 4294967296
  | 0, x, hx => by simp [colF] at hx
  | k + 1, x, hx => by
    have ih := colF_lt (b := b) (one := one) s k
    have h4 : (rdN b 4 (colF b one k s).2).1 < 4294967296 := by have := rdN_lt (b := b) (k := 4) (colF b one k s).2 (by omega); simpa using this
    rw [colF] at hx
    split at hx
    · rename_i hc
      rcases List.mem_append.1 hx with h | h
      · exact ih x h
      · simp only [List.mem_singleton] at h
        rw [h, List.getD_eq_getElem?_getD]
        have hl := colF_len b one s k
        rw [List.getElem?_eq_getElem (by omega)]
        exact ih _ (List.getElem_mem _)
    · rcases List.mem_append.1 hx with h | h
      · exact ih x h
      · simp only [List.mem_singleton] at h
        rw [h]; exact h4
theorem colF_get {b : List UInt8} {one : Bool} (s : Rd) (k i : Nat) : (colF b one k s).1.getD i 0 < 4294967296 := by
  rw [List.getD_eq_getElem?_getD]
  cases h : (colF b one k s).1[i]? with
  | none => simp
  | some x => exact colF_lt s k x (List.mem_of_getElem? h)
/-- The times. -/
def tmF (t0 : Int) (st : List Nat) : Nat → Int
  | 0 => t0
  | k + 1 => IntKind.i64.wrap (tmF t0 st k + ((st.getD k 0 : Nat) : Int))
/-- Samples out of their columns. -/
def mkSm (n : Nat) (tm : Nat → Int) (st : List Nat) (sh : List Int) (sz : List Nat) (ky : List Bool) : List Smp := (List.range n).map fun i => ⟨tm i, ((st.getD i 0 : Nat) : Int), sh.getD i 0, ((sz.getD i 0 : Nat) : Int), ky.getD i false⟩
theorem mkSm_len (n : Nat) (tm : Nat → Int) (st : List Nat) (sh : List Int) (sz : List Nat) (ky : List Bool) : (mkSm n tm st sh sz ky).length = n := by unfold mkSm; simp
theorem mkSm_get {n : Nat} {tm : Nat → Int} {st : List Nat} {sh : List Int} {sz : List Nat} {ky : List Bool} {i : Nat} (h : i < n) : (mkSm n tm st sh sz ky).getD i dS = ⟨tm i, ((st.getD i 0 : Nat) : Int), sh.getD i 0, ((sz.getD i 0 : Nat) : Int), ky.getD i false⟩ := by
  unfold mkSm; rw [List.getD_eq_getElem?_getD, List.getElem?_map, List.getElem?_range h]; rfl
theorem getD_snoc {α : Type} (l : List α) (v d : α) (i : Nat) : (l ++ [v]).getD i d = if i < l.length then l.getD i d else if i = l.length then v else d := by
  rw [List.getD_eq_getElem?_getD, List.getD_eq_getElem?_getD, List.getElem?_append]
  split
  · rfl
  · rename_i h
    split
    · rename_i h2; rw [h2]; simp
    · rw [List.getElem?_eq_none (by simp; omega)]; rfl
theorem getD_over {α : Type} (l : List α) (d : α) (i : Nat) (h : l.length ≤ i) : l.getD i d = d := by
  rw [List.getD_eq_getElem?_getD, List.getElem?_eq_none h]; rfl
theorem mkSm_set {n k : Nat} {tm tm' : Nat → Int} {st st' : List Nat} {sh sh' : List Int} {sz sz' : List Nat} {ky ky' : List Bool} (hk : k < n) (x : Smp)
    (hx : x = ⟨tm' k, ((st'.getD k 0 : Nat) : Int), sh'.getD k 0, ((sz'.getD k 0 : Nat) : Int), ky'.getD k false⟩)
    (ho : ∀ i, i < n → i ≠ k → tm i = tm' i ∧ st.getD i 0 = st'.getD i 0 ∧ sh.getD i 0 = sh'.getD i 0 ∧ sz.getD i 0 = sz'.getD i 0 ∧ ky.getD i false = ky'.getD i false) :
    (mkSm n tm st sh sz ky).set k x = mkSm n tm' st' sh' sz' ky' := by
  apply List.ext_getElem?
  intro i
  by_cases hi : i < n
  · by_cases hik : i = k
    · subst hik
      rw [List.getElem?_set_self (by rw [mkSm_len]; exact hi), hx]
      unfold mkSm; rw [List.getElem?_map, List.getElem?_range hi]; rfl
    · rw [List.getElem?_set_ne (fun h => hik h.symm)]
      obtain ⟨h1, h2, h3, h4, h5⟩ := ho i hi hik
      unfold mkSm
      rw [List.getElem?_map, List.getElem?_map, List.getElem?_range hi]
      simp only [Option.map_some]
      rw [h1, h2, h3, h4, h5]
  · rw [List.getElem?_eq_none (by rw [List.length_set, mkSm_len]; omega), List.getElem?_eq_none (by rw [mkSm_len]; omega)]
theorem snoc_ne {α : Type} {l : List α} {v d : α} {k i : Nat} (hl : l.length = k) (h : i ≠ k) : l.getD i d = (l ++ [v]).getD i d := by
  rw [getD_snoc]
  split
  · rfl
  · rw [if_neg (by omega)]; exact getD_over l d i (by omega)
theorem snoc_eq {α : Type} {l : List α} {v d : α} {k : Nat} (hl : l.length = k) : (l ++ [v]).getD k d = v := by
  rw [getD_snoc, if_neg (by omega), if_pos hl.symm]
theorem mkSm_step {n k : Nat} {tm : Nat → Int} {st : List Nat} {sh : List Int} {sz : List Nat} {ky : List Bool} (v : Nat) (hk : k < n) (hl : st.length = k) :
    (mkSm n tm st sh sz ky).set k { (mkSm n tm st sh sz ky).getD k dS with step := (v : Int) } = mkSm n tm (st ++ [v]) sh sz ky :=
  mkSm_set hk _ (by rw [mkSm_get hk, snoc_eq hl]) (fun i _ h => ⟨rfl, snoc_ne hl h, rfl, rfl, rfl⟩)
theorem mkSm_shift {n k : Nat} {tm : Nat → Int} {st : List Nat} {sh : List Int} {sz : List Nat} {ky : List Bool} (v : Int) (hk : k < n) (hl : sh.length = k) :
    (mkSm n tm st sh sz ky).set k { (mkSm n tm st sh sz ky).getD k dS with shift := v } = mkSm n tm st (sh ++ [v]) sz ky :=
  mkSm_set hk _ (by rw [mkSm_get hk, snoc_eq hl]) (fun i _ h => ⟨rfl, rfl, snoc_ne hl h, rfl, rfl⟩)
theorem mkSm_size {n k : Nat} {tm : Nat → Int} {st : List Nat} {sh : List Int} {sz : List Nat} {ky : List Bool} (v : Nat) (hk : k < n) (hl : sz.length = k) :
    (mkSm n tm st sh sz ky).set k { (mkSm n tm st sh sz ky).getD k dS with size := (v : Int) } = mkSm n tm st sh (sz ++ [v]) ky :=
  mkSm_set hk _ (by rw [mkSm_get hk, snoc_eq hl]) (fun i _ h => ⟨rfl, rfl, rfl, snoc_ne hl h, rfl⟩)
theorem mkSm_key {n k : Nat} {tm : Nat → Int} {st : List Nat} {sh : List Int} {sz : List Nat} {ky : List Bool} (v : Bool) (hk : k < n) (hl : ky.length = k) :
    (mkSm n tm st sh sz ky).set k { (mkSm n tm st sh sz ky).getD k dS with key := v } = mkSm n tm st sh sz (ky ++ [v]) :=
  mkSm_set hk _ (by rw [mkSm_get hk, snoc_eq hl]) (fun i _ h => ⟨rfl, rfl, rfl, rfl, snoc_ne hl h⟩)
/-- So many times are told. -/
def upT (k : Nat) (T : Nat → Int) : Nat → Int := fun i => if i < k then T i else 0
theorem mkSm_time {n k : Nat} {T : Nat → Int} {st : List Nat} {sh : List Int} {sz : List Nat} {ky : List Bool} (hk : k < n) :
    (mkSm n (upT k T) st sh sz ky).set k { (mkSm n (upT k T) st sh sz ky).getD k dS with time := T k } = mkSm n (upT (k + 1) T) st sh sz ky :=
  mkSm_set hk _ (by rw [mkSm_get hk]; simp [upT]) (fun i _ h => ⟨by unfold upT; by_cases h1 : i < k <;> by_cases h2 : i < k + 1 <;> simp [h1, h2] <;> omega, rfl, rfl, rfl, rfl⟩)
theorem mkSm_congr {n : Nat} {tm tm' : Nat → Int} {st : List Nat} {sh : List Int} {sz : List Nat} {ky : List Bool} (h : ∀ i, i < n → tm i = tm' i) : mkSm n tm st sh sz ky = mkSm n tm' st sh sz ky := by
  unfold mkSm
  apply List.map_congr_left
  intro i hi
  rw [h i (by simpa using hi)]
/-- The marks don't tell of times. -/
theorem mkN_times {n : Nat} {tm tm' : Nat → Int} {st : List Nat} {sh : List Int} {sz : List Nat} {ky : List Bool} : mkN (mkSm n tm st sh sz ky) = mkN (mkSm n tm' st sh sz ky) := by
  have hg : ∀ j, j < n → ∀ j', j' < n → ((mkSm n tm st sh sz ky).getD j dS).step = ((mkSm n tm' st sh sz ky).getD j dS).step ∧ ((mkSm n tm st sh sz ky).getD j dS).shift = ((mkSm n tm' st sh sz ky).getD j dS).shift ∧
      ((mkSm n tm st sh sz ky).getD j dS).size = ((mkSm n tm' st sh sz ky).getD j dS).size ∧ ((mkSm n tm st sh sz ky).getD j dS).key = ((mkSm n tm' st sh sz ky).getD j dS).key := by
    intro j hj _ _
    rw [mkSm_get hj, mkSm_get hj]; exact ⟨rfl, rfl, rfl, rfl⟩
  unfold mkN pS pH pZ pK
  rw [mkSm_len, mkSm_len]
  have e1 : (∀ j, j < n → ((mkSm n tm st sh sz ky).getD j dS).step = ((mkSm n tm st sh sz ky).getD 0 dS).step) ↔ (∀ j, j < n → ((mkSm n tm' st sh sz ky).getD j dS).step = ((mkSm n tm' st sh sz ky).getD 0 dS).step) :=
    ⟨fun h j hj => by rw [← (hg j hj j hj).1, ← (hg 0 (by omega) j hj).1]; exact h j hj, fun h j hj => by rw [(hg j hj j hj).1, (hg 0 (by omega) j hj).1]; exact h j hj⟩
  have e2 : (∀ j, j < n → ((mkSm n tm st sh sz ky).getD j dS).shift = 0) ↔ (∀ j, j < n → ((mkSm n tm' st sh sz ky).getD j dS).shift = 0) :=
    ⟨fun h j hj => by rw [← (hg j hj j hj).2.1]; exact h j hj, fun h j hj => by rw [(hg j hj j hj).2.1]; exact h j hj⟩
  have e3 : (∀ j, j < n → ((mkSm n tm st sh sz ky).getD j dS).size = ((mkSm n tm st sh sz ky).getD 0 dS).size) ↔ (∀ j, j < n → ((mkSm n tm' st sh sz ky).getD j dS).size = ((mkSm n tm' st sh sz ky).getD 0 dS).size) :=
    ⟨fun h j hj => by rw [← (hg j hj j hj).2.2.1, ← (hg 0 (by omega) j hj).2.2.1]; exact h j hj, fun h j hj => by rw [(hg j hj j hj).2.2.1, (hg 0 (by omega) j hj).2.2.1]; exact h j hj⟩
  have e4 : (∀ j, j < n → ((mkSm n tm st sh sz ky).getD j dS).key = decide (j = 0)) ↔ (∀ j, j < n → ((mkSm n tm' st sh sz ky).getD j dS).key = decide (j = 0)) :=
    ⟨fun h j hj => by rw [← (hg j hj j hj).2.2.2]; exact h j hj, fun h j hj => by rw [(hg j hj j hj).2.2.2]; exact h j hj⟩
  rw [decide_eq_decide.2 e1, decide_eq_decide.2 e2, decide_eq_decide.2 e3, decide_eq_decide.2 e4]
/-! ### The whole -/
def h1F (b : List UInt8) : Nat × Rd := rdN b 4 ⟨0, false⟩
def h2F (b : List UInt8) : Nat × Rd := rdN b 8 (h1F b).2
def h3F (b : List UInt8) : Nat × Rd := rdN b 2 (h2F b).2
def h4F (b : List UInt8) : Nat × Rd := rdF b 15 (h3F b).2
def tF (b : List UInt8) : Int := IntKind.i64.wrap ((h2F b).1 : Int)
def nF (b : List UInt8) : Nat := (h3F b).1
def oneS (b : List UInt8) : Bool := decide ((h4F b).1 % 2 = 1)
def noH (b : List UInt8) : Bool := decide ((h4F b).1 / 2 % 2 = 1)
def oneZ (b : List UInt8) : Bool := decide ((h4F b).1 / 4 % 2 = 1)
def fstK (b : List UInt8) : Bool := decide (8 ≤ (h4F b).1)
def c1F (b : List UInt8) (k : Nat) : List Nat × Rd := colF b (oneS b) k (h4F b).2
def c2F (b : List UInt8) (k : Nat) : List Int × Rd := colO b (noH b) k (c1F b (nF b)).2
def c3F (b : List UInt8) (k : Nat) : List Nat × Rd := colF b (oneZ b) k (c2F b (nF b)).2
def c4F (b : List UInt8) (k : Nat) : List Bool × Rd := keyF b (fstK b) k (c3F b (nF b)).2
def endF (b : List UInt8) : Rd := rdE b (c4F b (nF b)).2
def smF (b : List UInt8) : List Smp := mkSm (nF b) (tmF (tF b) (c1F b (nF b)).1) (c1F b (nF b)).1 (c2F b (nF b)).1 (c3F b (nF b)).1 (c4F b (nF b)).1
/-- The fault of ReadFragment, its place, its number and its samples. -/
def rfF (b : List UInt8) : Int := if (endF b).bad = true then 10 else if nF b = 0 ∧ tF b ≠ 0 then 3 else if (h4F b).1 ≠ mkN (smF b) then 3 else smpF (smF b)
def rfA (b : List UInt8) : Int := if (endF b).bad = true then ((endF b).pos : Int) else if nF b = 0 ∧ tF b ≠ 0 then 4 else if (h4F b).1 ≠ mkN (smF b) then 14 else 0
def rfN (b : List UInt8) : Int := if rfF b = 0 then ((h1F b).1 : Int) else 0
def rfL (b : List UInt8) : List Smp := if rfF b = 0 then smF b else []
theorem head_pos (b : List UInt8) : (h1F b).2.pos ≤ b.length ∧ (h2F b).2.pos ≤ b.length ∧ (h3F b).2.pos ≤ b.length ∧ (h4F b).2.pos ≤ b.length := by
  have h1 : (h1F b).2.pos ≤ b.length := rdN_pos (Nat.zero_le _)
  have h2 : (h2F b).2.pos ≤ b.length := rdN_pos h1
  have h3 : (h3F b).2.pos ≤ b.length := rdN_pos h2
  exact ⟨h1, h2, h3, rdF_pos h3⟩
theorem c1_pos (b : List UInt8) (k : Nat) : (c1F b k).2.pos ≤ b.length := colF_pos (head_pos b).2.2.2 k
theorem c2_pos (b : List UInt8) (k : Nat) : (c2F b k).2.pos ≤ b.length := colO_pos (c1_pos b _) k
theorem c3_pos (b : List UInt8) (k : Nat) : (c3F b k).2.pos ≤ b.length := colF_pos (c2_pos b _) k
theorem c4_pos (b : List UInt8) (k : Nat) : (c4F b k).2.pos ≤ b.length := keyF_pos (c3_pos b _) k
theorem end_bad {b : List UInt8} (h : (h4F b).2.bad = true) : endF b = (h4F b).2 := by
  have e1 : (c1F b (nF b)).2 = (h4F b).2 := colF_bad h _
  have e2 : (c2F b (nF b)).2 = (h4F b).2 := by unfold c2F; rw [e1]; exact colO_bad h _
  have e3 : (c3F b (nF b)).2 = (h4F b).2 := by unfold c3F; rw [e2]; exact colF_bad h _
  have e4 : (c4F b (nF b)).2 = (h4F b).2 := by unfold c4F; rw [e3]; exact keyF_bad h _
  unfold endF; rw [e4]; exact rdE_bad h
theorem rf_bad {b : List UInt8} {ps : Nat} (h : endF b = ⟨ps, true⟩) : rfF b = 10 ∧ rfA b = (ps : Int) := by unfold rfF rfA; rw [h]; exact ⟨rfl, rfl⟩
theorem rf_time {b : List UInt8} {ps : Nat} (h : endF b = ⟨ps, false⟩) (h2 : nF b = 0 ∧ tF b ≠ 0) : rfF b = 3 ∧ rfA b = 4 := by
  unfold rfF rfA; have hb : ¬ ((⟨ps, false⟩ : Rd).bad = true) := by simp
  rw [h, if_neg hb, if_neg hb, if_pos h2, if_pos h2]; exact ⟨rfl, rfl⟩
theorem rf_mark {b : List UInt8} {ps : Nat} (h : endF b = ⟨ps, false⟩) (h2 : ¬ (nF b = 0 ∧ tF b ≠ 0)) (h3 : (h4F b).1 ≠ mkN (smF b)) : rfF b = 3 ∧ rfA b = 14 := by
  unfold rfF rfA; have hb : ¬ ((⟨ps, false⟩ : Rd).bad = true) := by simp
  rw [h, if_neg hb, if_neg hb, if_neg h2, if_neg h2, if_pos h3, if_pos h3]; exact ⟨rfl, rfl⟩
theorem rf_ok {b : List UInt8} {ps : Nat} (h : endF b = ⟨ps, false⟩) (h2 : ¬ (nF b = 0 ∧ tF b ≠ 0)) (h3 : (h4F b).1 = mkN (smF b)) : rfF b = smpF (smF b) ∧ rfA b = 0 := by
  unfold rfF rfA; have hb : ¬ ((⟨ps, false⟩ : Rd).bad = true) := by simp
  rw [h, if_neg hb, if_neg hb, if_neg h2, if_neg h2, if_neg (fun hc => hc h3), if_neg (fun hc => hc h3)]; exact ⟨rfl, rfl⟩
end Go.Proofs.Ytccmbokodifdoaa
