/- Several texts in one: Chunks of tracks laid one after another, in plain words. Plain but for the words of tracks; make of a slice: its run equation, and that it is an own row of elements alike. Conditions as stated; The memory in which chunks are laid: an array of rows of numbers, rows of numbers beside it, a row of bytes. No condition; Walk: tableBytes (program). Conditions as stated. -/
import Derived.Test.YtlonhkjplijlcaaMfd02
import Derived.Test.YtlonhkjplijlcaaMfd00
import Derived.Laws.OwnMore
import Derived.Laws.MakeOwn
import Derived.Test.YtlonhkjplijlcaaMfd04
import Derived.Test.YtlonhkjplijlcaaMfd01
import Derived.Test.YtlonhkjplijlcaaMfd08
import Derived.Deep.RegionHeld3
namespace Go.Proofs.Ytlonhkjplijlcaa
def szN : List Smp → Nat
  | [] => 0
  | x :: r => x.size.toNat + szN r
theorem szN_app : ∀ a b : List Smp, szN (a ++ b) = szN a + szN b
  | [], b => by simp [szN]
  | x :: a, b => by rw [List.cons_append, szN, szN, szN_app a b]; omega
theorem szN_take {l : List Smp} {k : Nat} (h : k < l.length) : szN (l.take (k + 1)) = szN (l.take k) + (l.getD k dS).size.toNat := by
  rw [List.take_succ_eq_append_getElem h, szN_app]
  simp [szN, List.getD, h]
theorem szN_le (l : List Smp) (k : Nat) : szN (l.take k) ≤ szN l := by
  conv => rhs; rw [← List.take_append_drop k l, szN_app]
  omega
theorem szN_mono (l : List Smp) {j k : Nat} (h : j ≤ k) : szN (l.take j) ≤ szN (l.take k) := by
  have := szN_le (l.take k) j
  rwa [List.take_take, Nat.min_eq_left h] at this
def szOk (l : List Smp) : Prop := ∀ k, k < l.length → 0 ≤ (l.getD k dS).size ∧ (l.getD k dS).size ≤ 100000
theorem szOk_of {l : List Smp} (h : smpF l = 0) : szOk l := fun k hk => (badS_ok (smpEl_zero ((smpF_zero h).2.1 k hk)).1).2.2.2
theorem szN_few {l : List Smp} (h : szOk l) {a b : Nat} (hab : a ≤ b) (hb : b ≤ l.length) : szN (l.take b) ≤ szN (l.take a) + 100000 * (b - a) := by
  induction b with
  | zero =>
    have : a = 0 := by omega
    subst this; simp
  | succ b ih =>
    by_cases he : a = b + 1
    · subst he; simp
    · have h1 := ih (by omega) (by omega)
      have h2 := h b (by omega)
      rw [szN_take (by omega)]
      have h3 : b + 1 - a = (b - a) + 1 := by omega
      rw [h3, Nat.mul_add]
      omega
structure LayS where
  pl : List (List Int)
  out : List UInt8
def pcB (b : List UInt8) (i j : Nat) : List UInt8 := (b.drop i).take (j - i)
theorem pcB_len {b : List UInt8} {i j : Nat} (h : i ≤ j) (hj : j ≤ b.length) : (pcB b i j).length = j - i := by unfold pcB; rw [List.length_take, List.length_drop]; omega
def layI (T : List TrkT) (D : List (List UInt8)) (ch from_ n i : Nat) (s : LayS) : LayS :=
  if (T.getD i default).smp.length ≤ n * ch then s
  else ⟨s.pl.set i (s.pl.getD i [] ++ [((from_ + s.out.length : Nat) : Int)]), s.out ++ pcB (D.getD i []) (szN ((T.getD i default).smp.take (n * ch))) (szN ((T.getD i default).smp.take (min (n * ch + ch) (T.getD i default).smp.length)))⟩
def layK (T : List TrkT) (D : List (List UInt8)) (ch from_ n : Nat) (s : LayS) : Nat → LayS
  | 0 => s
  | i + 1 => layI T D ch from_ n i (layK T D ch from_ n s i)
def layR (T : List TrkT) (D : List (List UInt8)) (ch from_ : Nat) : Nat → LayS
  | 0 => ⟨List.replicate T.length [], []⟩
  | n + 1 => layK T D ch from_ n (layR T D ch from_ n) T.length
def roundsN : Nat := 5001
def layF (T : List TrkT) (D : List (List UInt8)) (ch from_ : Nat) : LayS := layR T D ch from_ roundsN
section
variable {T : List TrkT} {D : List (List UInt8)} {ch from_ : Nat}
theorem layK_still {n : Nat} {s : LayS} (h : ∀ i, i < T.length → (T.getD i default).smp.length ≤ n * ch) : ∀ k, k ≤ T.length → layK T D ch from_ n s k = s
  | 0, _ => rfl
  | k + 1, hk => by rw [layK, layK_still h k (by omega), layI, if_pos (h k (by omega))]
theorem layR_still {n : Nat} (h : ∀ i, i < T.length → (T.getD i default).smp.length ≤ n * ch) : ∀ j, layR T D ch from_ (n + j) = layR T D ch from_ n
  | 0 => rfl
  | j + 1 => by
    rw [show n + (j + 1) = (n + j) + 1 by omega, layR, layR_still h j]
    exact layK_still (fun i hi => Nat.le_trans (h i hi) (Nat.mul_le_mul_right _ (by omega))) _ (Nat.le_refl _)
theorem layF_at {n : Nat} (h : ∀ i, i < T.length → (T.getD i default).smp.length ≤ n * ch) (hn : n ≤ 5001) : layF T D ch from_ = layR T D ch from_ n := by
  obtain ⟨j, hj⟩ : ∃ j, roundsN = n + j := ⟨5001 - n, by unfold roundsN; omega⟩
  unfold layF
  rw [hj]
  exact layR_still h j
theorem layI_len {n i : Nat} {s : LayS} : (layI T D ch from_ n i s).pl.length = s.pl.length := by
  unfold layI; split
  · rfl
  · exact List.length_set
theorem layK_len {n : Nat} {s : LayS} : ∀ k, (layK T D ch from_ n s k).pl.length = s.pl.length
  | 0 => rfl
  | k + 1 => by rw [layK, layI_len, layK_len k]
theorem layR_len : ∀ n, (layR T D ch from_ n).pl.length = T.length
  | 0 => List.length_replicate
  | n + 1 => by rw [layR, layK_len, layR_len n]
set_option maxRecDepth 100000 in
theorem layI_out {n i : Nat} {s : LayS} (hs : szOk (T.getD i default).smp) (hc : ch ≤ 1000) : (layI T D ch from_ n i s).out.length ≤ s.out.length + 100000000 := by
  unfold layI; split
  · omega
  · rename_i h
    simp only [List.length_append]
    have h1 : (pcB (D.getD i []) (szN ((T.getD i default).smp.take (n * ch))) (szN ((T.getD i default).smp.take (min (n * ch + ch) (T.getD i default).smp.length)))).length ≤ 100000000 := by
      unfold pcB
      rw [List.length_take]
      have h2 := szN_few hs (a := n * ch) (b := min (n * ch + ch) (T.getD i default).smp.length) (by omega) (by omega)
      have h3 : 100000 * (min (n * ch + ch) (T.getD i default).smp.length - n * ch) ≤ 100000 * 1000 := Nat.mul_le_mul_left _ (by omega)
      omega
    omega
set_option maxRecDepth 100000 in
theorem layK_out {n : Nat} {s : LayS} (hs : ∀ i, i < T.length → szOk (T.getD i default).smp) (hc : ch ≤ 1000) : ∀ k, k ≤ T.length → (layK T D ch from_ n s k).out.length ≤ s.out.length + 100000000 * k
  | 0, _ => by simp [layK]
  | k + 1, hk => by
    have h1 := layK_out (n := n) (s := s) hs hc k (by omega)
    have h2 := layI_out (D := D) (from_ := from_) (n := n) (s := layK T D ch from_ n s k) (hs k (by omega)) hc
    rw [layK]
    refine Nat.le_trans h2 ?_
    rw [Nat.mul_succ, ← Nat.add_assoc]
    exact Nat.add_le_add_right h1 _
set_option maxRecDepth 100000 in
theorem layR_out (hs : ∀ i, i < T.length → szOk (T.getD i default).smp) (hc : ch ≤ 1000) (h8 : T.length ≤ 8) : ∀ n, (layR T D ch from_ n).out.length ≤ 800000000 * n
  | 0 => by simp [layR]
  | n + 1 => by
    have h1 := layR_out hs hc h8 n
    have h2 := layK_out (D := D) (from_ := from_) (n := n) (s := layR T D ch from_ n) hs hc T.length (Nat.le_refl _)
    rw [layR, Nat.mul_succ]
    have h3 : 100000000 * T.length ≤ 800000000 := Nat.le_trans (Nat.mul_le_mul_left _ h8) (by decide)
    exact Nat.le_trans h2 (Nat.add_le_add h1 h3)
theorem layI_few {n i j : Nat} {s : LayS} (h5 : (T.getD i default).smp.length ≤ 5000) (hc : 1 ≤ ch) (hp : (s.pl.getD j []).length ≤ 5000) (hn : i = j → (s.pl.getD j []).length ≤ n) : ((layI T D ch from_ n i s).pl.getD j []).length ≤ 5000 ∧ ((layI T D ch from_ n i s).pl.getD j []).length ≤ (s.pl.getD j []).length + (if i = j then 1 else 0) := by
  unfold layI; split
  · exact ⟨hp, by omega⟩
  · rename_i h
    simp only [List.getD_eq_getElem?_getD, List.getElem?_set]
    by_cases hij : i = j
    · subst hij
      have h1 : n < 5000 := by
        have : n * 1 ≤ n * ch := Nat.mul_le_mul_left _ hc
        omega
      have hn2 := hn rfl
      simp only [List.getD_eq_getElem?_getD] at hn2
      by_cases hl : i < s.pl.length
      · simp [hl] at hn2 ⊢
        omega
      · simp [hl]
    · simp only [hij, if_false]
      simp only [List.getD_eq_getElem?_getD] at hp
      exact ⟨hp, by omega⟩
theorem layK_few {n : Nat} {s : LayS} (h5 : ∀ i, i < T.length → (T.getD i default).smp.length ≤ 5000) (hc : 1 ≤ ch) (hp : ∀ j, (s.pl.getD j []).length ≤ 5000 ∧ (s.pl.getD j []).length ≤ n) : ∀ k, k ≤ T.length → ∀ j, ((layK T D ch from_ n s k).pl.getD j []).length ≤ 5000 ∧ ((layK T D ch from_ n s k).pl.getD j []).length ≤ n + (if j < k then 1 else 0)
  | 0, _, j => by rw [layK]; exact ⟨(hp j).1, by have := (hp j).2; omega⟩
  | k + 1, hk, j => by
    have ih := layK_few h5 hc hp k (by omega) j
    have h1 := layI_few (D := D) (from_ := from_) (n := n) (i := k) (j := j) (s := layK T D ch from_ n s k) (h5 k (by omega)) hc ih.1 (fun e => by have := ih.2; rw [if_neg (by omega)] at this; omega)
    rw [layK]
    refine ⟨h1.1, ?_⟩
    have h2 := h1.2
    have h3 := ih.2
    by_cases hkj : k = j
    · subst hkj
      rw [if_pos rfl] at h2
      rw [if_neg (by omega)] at h3
      rw [if_pos (by omega)]
      omega
    · rw [if_neg hkj] at h2
      by_cases hlt : j < k
      · rw [if_pos hlt] at h3; rw [if_pos (by omega)]; omega
      · rw [if_neg hlt] at h3; rw [if_neg (by omega)]; omega
theorem layR_few (h5 : ∀ i, i < T.length → (T.getD i default).smp.length ≤ 5000) (hc : 1 ≤ ch) : ∀ n j, ((layR T D ch from_ n).pl.getD j []).length ≤ 5000 ∧ ((layR T D ch from_ n).pl.getD j []).length ≤ n
  | 0, j => by
    have : ((layR T D ch from_ 0).pl.getD j []) = [] := by
      rw [layR]
      simp only [List.getD_eq_getElem?_getD, List.getElem?_replicate]
      split <;> rfl
    rw [this]; simp
  | n + 1, j => by
    have h1 := layK_few (D := D) (from_ := from_) (n := n) h5 hc (layR_few h5 hc n) T.length (Nat.le_refl _) j
    rw [layR]
    refine ⟨h1.1, ?_⟩
    have h2 := h1.2
    split at h2 <;> omega
end
end Go.Proofs.Ytlonhkjplijlcaa
namespace Go.Proofs.Ytlonhkjplijlcaa
open Go.RowKit
theorem made_flat {α : Type} {enc : α → List Value} {z : Array Value} {x : α} {sz : Nat} (hz : enc x = z.toList) (hs : z.size = sz) (h0 : 0 < sz) (m : Nat) : (madeCells z (m * sz)).toList = (List.replicate m x).flatMap enc := by
  subst hs
  apply List.ext_getElem?
  intro i
  have hl : ∀ m, ((List.replicate m x).flatMap enc).length = m * z.size := by
    intro m
    induction m with
    | zero => simp
    | succ m ih => rw [List.replicate_succ, List.flatMap_cons, List.length_append, ih, hz]; simp [Nat.add_mul]; omega
  by_cases hi : i < m * z.size
  · have hq : i / z.size < m := Nat.div_lt_of_lt_mul (by rw [Nat.mul_comm]; exact hi)
    have hr : i % z.size < z.size := Nat.mod_lt _ h0
    have he : i / z.size * z.size + i % z.size = i := by rw [Nat.mul_comm]; exact Nat.div_add_mod i _
    have key : ∀ (m q r : Nat), q < m → r < z.size → ((List.replicate m x).flatMap enc)[q * z.size + r]? = some (z[r]!) := by
      intro m
      induction m with
      | zero => intro q r hq _; omega
      | succ m ih =>
        intro q r hq hr
        rw [List.replicate_succ, List.flatMap_cons]
        have hln : (enc x).length = z.size := by rw [hz]; simp
        cases q with
        | zero =>
          rw [List.getElem?_append_left (by rw [hln]; omega), hz]
          simp [hr]
        | succ q =>
          rw [List.getElem?_append_right (by rw [hln, Nat.add_mul]; omega), hln, show (q + 1) * z.size + r - z.size = q * z.size + r by rw [Nat.add_mul]; omega]
          exact ih q r (by omega) hr
    have := key m (i / z.size) (i % z.size) hq hr
    rw [he] at this
    rw [this]
    unfold madeCells
    simp [hi, hr]
  · rw [List.getElem?_eq_none (by rw [Array.length_toList, size_madeCells]; omega), List.getElem?_eq_none (by rw [hl]; omega)]
theorem made_own {α : Type} {enc : α → List Value} {z : Array Value} {x : α} {sz : Nat} {t : TypeId} (hz : enc x = z.toList) (hs : z.size = sz) (h0 : 0 < sz) (W : World) (base m : Nat) (hb : base ≤ W.heap.size) (hm : m ≤ maxLen) :
    Own (W.alloc (.cells (madeCells z (m * sz)) t)) base t sz enc (.slice (some ⟨W.heap.size, 0, none⟩) m m) (List.replicate m x) := by
  have := World.ownsRow_lit (base := base) (size := sz) (e := t) W (madeCells z (m * sz)) m hb hm (size_madeCells _ _)
  rw [made_flat hz hs h0] at this
  unfold Own
  rw [List.length_replicate]
  exact this
theorem made_run {P : Program} (t e : TypeId) (i : TypeInfo) (z : Value) {sz bytes : Nat} (ht : P.underlying t = some (.slice e)) (hi : P.info? e = some i) (hz : i.zero = some z) (hs : i.size = sz) (hby : i.bytes = bytes) (m : Nat) (h1 : bytes * m ≤ 281474976710656) (h2 : m ≤ 9223372036854775807) :
    ∀ W : World, (Instr.makeSlice t (.int .i64 (m : Int)) (.int .i64 (m : Int))).run P W = .ok (.slice (some ⟨W.heap.size, 0, none⟩) m m) (W.alloc (.cells (madeCells z.cells (m * sz)) e)) := fun W => by
  have := run_make (P := P) W t e i z ht hi hz .i64 .i64 (m : Int) (m : Int) (by omega) (Int.le_refl _) (by rw [hby]; rw [← Int.natCast_mul]; omega) (by omega)
  rw [hs] at this
  simpa using this
abbrev rwV (h : Option Addr × Nat × Nat) : Value := .slice h.1 h.2.1 h.2.2
abbrev dR : Option Addr × Nat × Nat := (none, 0, 0)
abbrev dI : Nat × List Int := (0, [])
structure LaM (w0 W : World) (gp m : Nat) (hs : List (Option Addr × Nat × Nat)) (pl : List (List Int)) (S : List (Nat × List Int)) (v : Value) (out : List UInt8) : Prop where
  ext : Ext w0 W
  pls : Own W w0.heap.size 70 1 eB1 (.slice (some ⟨gp, 0, none⟩) m m) hs
  plen : pl.length = m
  rows : ∀ i, i < m → Own W w0.heap.size 3 1 e64 (rwV (hs.getD i dR)) (pl.getD i [])
  ints : ∀ j, j < S.length → Own W w0.heap.size 3 1 e64 (.slice (some ⟨(S.getD j dI).1, 0, none⟩) m m) (S.getD j dI).2
  out_ : Own W w0.heap.size 5 1 e8 v out
  a1 : ∀ j, j < S.length → (S.getD j dI).1 ≠ gp
  a2 : ∀ j k, j < S.length → k < S.length → j ≠ k → (S.getD j dI).1 ≠ (S.getD k dI).1
  a3 : ∀ i, i < m → ∀ g, (rwV (hs.getD i dR)).ownBlock = some g → g ≠ gp ∧ (∀ j, j < S.length → (S.getD j dI).1 ≠ g) ∧ v.ownBlock ≠ some g ∧ ∀ k, k < m → k ≠ i → (rwV (hs.getD k dR)).ownBlock ≠ some g
  a4 : ∀ g, v.ownBlock = some g → g ≠ gp ∧ ∀ j, j < S.length → (S.getD j dI).1 ≠ g
section
variable {w0 W : World} {gp m : Nat} {hs : List (Option Addr × Nat × Nat)} {pl : List (List Int)} {S : List (Nat × List Int)} {v : Value} {out : List UInt8}
theorem LaM.extW (h : LaM w0 W gp m hs pl S v out) {W' : World} (he : Ext W W') : LaM w0 W' gp m hs pl S v out :=
  ⟨Ext.trans h.ext he, h.pls.ext he, h.plen, fun i hi => (h.rows i hi).ext he, fun j hj => (h.ints j hj).ext he, h.out_.ext he, h.a1, h.a2, h.a3, h.a4⟩
theorem LaM.hlen (h : LaM w0 W gp m hs pl S v out) : hs.length = m := (h.pls.atS len_eB1).len
theorem LaM.slt (h : LaM w0 W gp m hs pl S v out) {j : Nat} (hj : j < S.length) : w0.heap.size ≤ (S.getD j dI).1 ∧ (S.getD j dI).1 < W.heap.size := (h.ints j hj).lt _ rfl
theorem getD_set {α : Type} {l : List α} {i j : Nat} {x d : α} (hi : i < l.length) : (l.set i x).getD j d = if i = j then x else l.getD j d := by
  simp only [List.getD_eq_getElem?_getD, List.getElem?_set]
  by_cases hij : i = j
  · subst hij; simp [hi]
  · simp [hij]
theorem LaM.setS (h : LaM w0 W gp m hs pl S v out) {j : Nat} (hj : j < S.length) (k : Nat) (x : Int) :
    LaM w0 (W.setCell ⟨(S.getD j dI).1, k, none⟩ (.int .i64 x)) gp m hs pl (S.set j ((S.getD j dI).1, (S.getD j dI).2.set k x)) v out := by
  have hT : Tw W (W.setCell ⟨(S.getD j dI).1, k, none⟩ (.int .i64 x)) (S.getD j dI).1 none := Tw.set_ _ _ _ _ _
  have hlt := h.slt hj
  have hblk : ∀ q, ((S.set j ((S.getD j dI).1, (S.getD j dI).2.set k x)).getD q dI).1 = (S.getD q dI).1 := fun q => by
    rw [getD_set hj]; split
    · subst_vars; rfl
    · rfl
  refine ⟨⟨hT.os.trans h.ext.os, hT.tape.trans h.ext.tape, hT.output.trans h.ext.output, Nat.le_trans h.ext.size hT.size, fun q hq => (hT.block q (Nat.lt_of_lt_of_le hq h.ext.size) (by omega) (by simp)).trans (h.ext.block q hq)⟩,
    h.pls.tw hT (fun e => by injection e with e; exact h.a1 j hj e.symm) (fun g _ e => by cases e), h.plen,
    fun i hi => (h.rows i hi).tw hT (fun e => (h.a3 i hi _ e).2.1 j hj rfl) (fun g _ e => by cases e), fun q hq => ?_,
    h.out_.tw hT (fun e => (h.a4 _ e).2 j hj rfl) (fun g _ e => by cases e), fun q hq => ?_, fun q r hq hr hne => ?_, fun i hi g hg => ?_, fun g hg => ?_⟩
  · rw [List.length_set] at hq
    rw [hblk, getD_set hj]
    by_cases hjq : j = q
    · subst hjq
      rw [if_pos rfl]
      exact (h.ints j hj).set1 len_e64 k x _ rfl
    · rw [if_neg hjq]
      exact (h.ints q hq).tw hT (fun e => by injection e with e; exact h.a2 q j hq hj (Ne.symm hjq) e) (fun g _ e => by cases e)
  · rw [List.length_set] at hq; rw [hblk]; exact h.a1 q hq
  · rw [List.length_set] at hq hr; rw [hblk, hblk]; exact h.a2 q r hq hr hne
  · obtain ⟨b1, b2, b3, b4⟩ := h.a3 i hi g hg
    exact ⟨b1, fun q hq => by rw [List.length_set] at hq; rw [hblk]; exact b2 q hq, b3, b4⟩
  · obtain ⟨b1, b2⟩ := h.a4 g hg
    exact ⟨b1, fun q hq => by rw [List.length_set] at hq; rw [hblk]; exact b2 q hq⟩
theorem LaM.app (h : LaM w0 W gp m hs pl S v out) {i : Nat} (hi : i < m) {Wa W6 : World} {x : Int} {A : Option Addr} {n c : Nat} (he : Ext W Wa) (ho : Own W6 w0.heap.size 3 1 e64 (.slice A n c) (pl.getD i [] ++ [x]))
    (hg : Wa.grownBy W6 (rwV (hs.getD i dR)).ownBlock) (hr : (Value.slice A n c).ownBlock = (rwV (hs.getD i dR)).ownBlock ∨ (Value.slice A n c).ownBlock = some Wa.heap.size) :
    LaM w0 (W6.setCell ⟨gp, i, none⟩ (.slice A n c)) gp m (hs.set i (A, n, c)) (pl.set i (pl.getD i [] ++ [x])) S v out := by
  have hl := h.hlen
  have hpl := h.plen
  have s1 := he.size
  have s2 := hg.size
  have hT : Tw W6 (W6.setCell ⟨gp, i, none⟩ (.slice A n c)) gp none := Tw.set_ _ _ _ _ _
  have hTg : Tw Wa W6 Wa.heap.size (rwV (hs.getD i dR)).ownBlock := Tw.of_grown hg
  have hgp := h.pls.lt gp rfl
  have far : ∀ {α : Type} {t : TypeId} {sz : Nat} {enc : α → List Value} {u : Value} {xs : List α}, Own W w0.heap.size t sz enc u xs → (∀ g, u.ownBlock = some g → (rwV (hs.getD i dR)).ownBlock ≠ some g) → Own W6 w0.heap.size t sz enc u xs := fun hu hne =>
    (hu.ext he).tw hTg (fun e => by have := (hu.lt _ e).2; omega) (fun g hg2 e => hne g hg2 e)
  have hne : ∀ g, (Value.slice A n c).ownBlock = some g → g ≠ gp ∧ (∀ j, j < S.length → (S.getD j dI).1 ≠ g) ∧ v.ownBlock ≠ some g ∧ ∀ k, k < m → k ≠ i → (rwV (hs.getD k dR)).ownBlock ≠ some g := fun g hg2 => by
    rcases hr with hr | hr
    · exact h.a3 i hi g (by rw [← hr]; exact hg2)
    · rw [hr] at hg2
      injection hg2 with hg2
      subst hg2
      refine ⟨by omega, fun j hj => ?_, fun e => ?_, fun k hk _ e => ?_⟩
      · have := (h.slt hj).2; omega
      · have := (h.out_.lt _ e).2; omega
      · have := ((h.rows k hk).lt _ e).2; omega
  have hnb : (Value.slice A n c).ownBlock ≠ some gp := fun e => (hne gp e).1 rfl
  have e6 : Ext w0 W6 := by
    refine ⟨hg.os.trans (he.os.trans h.ext.os), hg.tape.trans (he.tape.trans h.ext.tape), hg.output.trans (he.output.trans h.ext.output), Nat.le_trans h.ext.size (Nat.le_trans s1 s2), fun q hq => ?_⟩
    have h1 := h.ext.size
    exact (hg.block q (by omega) (fun e => by have := (h.rows i hi).lt q e.symm; omega)).trans ((he.block q (by omega)).trans (h.ext.block q hq))
  refine ⟨⟨hT.os.trans e6.os, hT.tape.trans e6.tape, hT.output.trans e6.output, Nat.le_trans e6.size hT.size, fun q hq => (hT.block q (Nat.lt_of_lt_of_le hq e6.size) (by omega) (by simp)).trans (e6.block q hq)⟩,
    (far h.pls (fun g e e2 => by injection e with e; exact (h.a3 i hi g e2).1 e.symm)).set1 len_eB1 i (A, n, c) _ rfl, by rw [List.length_set, hpl], fun k hk => ?_, fun j hj => ?_, ?_, h.a1, h.a2, fun k hk g hg2 => ?_, fun g hg2 => ?_⟩
  · rw [getD_set (by omega), getD_set (by omega)]
    by_cases hik : i = k
    · subst hik
      rw [if_pos rfl, if_pos rfl]
      exact ho.tw hT hnb (fun g _ e => by cases e)
    · rw [if_neg hik, if_neg hik]
      exact (far (h.rows k hk) (fun g e e2 => (h.a3 i hi g e2).2.2.2 k hk (Ne.symm hik) e)).tw hT (fun e => (h.a3 k hk _ e).1 rfl) (fun g _ e => by cases e)
  · exact (far (h.ints j hj) (fun g e e2 => by injection e with e; exact (h.a3 i hi g e2).2.1 j hj e)).tw hT (fun e => by injection e with e; exact h.a1 j hj e) (fun g _ e => by cases e)
  · exact (far h.out_ (fun g e e2 => (h.a3 i hi g e2).2.2.1 e)).tw hT (fun e => (h.a4 _ e).1 rfl) (fun g _ e => by cases e)
  · rw [getD_set (by omega)] at hg2
    by_cases hik : i = k
    · subst hik
      rw [if_pos rfl] at hg2
      obtain ⟨b1, b2, b3, b4⟩ := hne g hg2
      refine ⟨b1, b2, b3, fun q hq hqi => ?_⟩
      rw [getD_set (by omega), if_neg (Ne.symm hqi)]
      exact b4 q hq hqi
    · rw [if_neg hik] at hg2
      obtain ⟨b1, b2, b3, b4⟩ := h.a3 k hk g hg2
      refine ⟨b1, b2, b3, fun q hq hqk => ?_⟩
      rw [getD_set (by omega)]
      by_cases hiq : i = q
      · rw [if_pos hiq]
        intro e
        have e2 : (Value.slice A n c).ownBlock = some g := e
        exact (hne g e2).2.2.2 k hk (Ne.symm hik) hg2
      · rw [if_neg hiq]; exact b4 q hq hqk
  · exact h.a4 g hg2
theorem LaM.appOut (h : LaM w0 W gp m hs pl S v out) {Wa W6 : World} {v' : Value} {out' : List UInt8} (he : Ext W Wa) (ho : Own W6 w0.heap.size 5 1 e8 v' out')
    (hg : Wa.grownBy W6 v.ownBlock) (hr : v'.ownBlock = v.ownBlock ∨ v'.ownBlock = some Wa.heap.size) : LaM w0 W6 gp m hs pl S v' out' := by
  have s1 := he.size
  have s2 := hg.size
  have hTg : Tw Wa W6 Wa.heap.size v.ownBlock := Tw.of_grown hg
  have hgp := h.pls.lt gp rfl
  have far : ∀ {α : Type} {t : TypeId} {sz : Nat} {enc : α → List Value} {u : Value} {xs : List α}, Own W w0.heap.size t sz enc u xs → (∀ g, u.ownBlock = some g → v.ownBlock ≠ some g) → Own W6 w0.heap.size t sz enc u xs := fun hu hne =>
    (hu.ext he).tw hTg (fun e => by have := (hu.lt _ e).2; omega) (fun g hg2 e => hne g hg2 e)
  have e6 : Ext w0 W6 := by
    refine ⟨hg.os.trans (he.os.trans h.ext.os), hg.tape.trans (he.tape.trans h.ext.tape), hg.output.trans (he.output.trans h.ext.output), Nat.le_trans h.ext.size (Nat.le_trans s1 s2), fun q hq => ?_⟩
    have h1 := h.ext.size
    exact (hg.block q (by omega) (fun e => by have := h.out_.lt q e.symm; omega)).trans ((he.block q (by omega)).trans (h.ext.block q hq))
  refine ⟨e6, far h.pls (fun g e e2 => by injection e with e; exact (h.a4 g e2).1 e.symm), h.plen, fun i hi => far (h.rows i hi) (fun g e => (h.a3 i hi g e).2.2.1), fun j hj => far (h.ints j hj) (fun g e e2 => by injection e with e; exact (h.a4 g e2).2 j hj e), ho, h.a1, h.a2, fun i hi g hg2 => ?_, fun g hg2 => ?_⟩
  · obtain ⟨b1, b2, b3, b4⟩ := h.a3 i hi g hg2
    refine ⟨b1, b2, fun e => ?_, b4⟩
    rcases hr with hr | hr
    · exact b3 (by rw [← hr]; exact e)
    · rw [hr] at e; injection e with e; have := ((h.rows i hi).lt g hg2).2; omega
  · rcases hr with hr | hr
    · exact h.a4 g (by rw [← hr]; exact hg2)
    · rw [hr] at hg2
      injection hg2 with hg2
      subst hg2
      exact ⟨by omega, fun j hj => by have := (h.slt hj).2; omega⟩
end
def keyB (nok : Bool) (K : List Int) : List UInt8 := if nok = true then [0] else [1] ++ liB K.length K
def tabBy (t : Tab) : List UInt8 := beN 8 (u64N t.start) ++ liB t.steps.length (rnN t.steps) ++ liB t.shifts.length (rnN t.shifts) ++ liB t.sizes.length t.sizes ++ keyB t.nok t.keys ++ liB t.chunks.length (rnN t.chunks) ++ liB t.places.length t.places
theorem liB_len (m : Nat) (l : List Int) : (liB m l).length = 4 + 8 * l.length := by unfold liB; rw [List.length_append, beN_len, lsB_len]
theorem keyB_len (nok : Bool) (K : List Int) : (keyB nok K).length ≤ 5 + 8 * K.length := by
  unfold keyB
  cases nok with
  | true => rw [if_pos rfl]; simp; omega
  | false => rw [if_neg (by simp), List.length_append, liB_len]; simp; omega
structure TabFw (sn hn zn kn cn pn : Nat) : Prop where
  s : sn ≤ 5000
  h : hn ≤ 5000
  z : zn ≤ 5000
  k : kn ≤ 5000
  c : cn ≤ 5000
  p : pn ≤ 5000
set_option linter.unusedVariables false in
set_option linter.unusedSimpArgs false in
set_option maxRecDepth 100000 in
set_option maxHeartbeats 16000000 in
theorem tableBytes_in {st : Int} {sA : Option Addr} {sn sc : Nat} {hA : Option Addr} {hn hc : Nat} {zA : Option Addr} {zn zc : Nat} {kA : Option Addr} {kn kc : Nat} {cA : Option Addr} {cn cc : Nat} {pA : Option Addr} {pn pc : Nat} {t : Tab} {w : World} (h : TabAt w sA sn sc hA hn hc zA zn zc kA kn kc cA cn cc pA pn pc t) (hst : t.start = st) (hf : TabFw sn hn zn kn cn pn) :
    Calls Try.prog 42 #[.agg #[.int .i64 st, .slice sA sn sc, .slice hA hn hc, .slice zA zn zc, .slice kA kn kc, .slice cA cn cc, .slice pA pn pc]] w fun e w' => ∃ T k tc, e = .returned (.slice T k tc) ∧ Own w' (w.heap.size + 1) 5 1 e8 (.slice T k tc) (tabBy t) ∧ Ext w w' := by
  subst hst
  obtain ⟨st, S, SH, Z, K, nok, C, P⟩ := t
  simp only at h ⊢
  obtain ⟨f1, f2, f3, f4, f5, f6⟩ := hf
  have LS : S.length = sn := h.steps.len
  have LH : SH.length = hn := h.shifts.len
  have LZ : Z.length = zn := h.sizes.len
  have LK : K.length = kn := h.keys.len
  have LC : C.length = cn := h.chunks.len
  have LP : P.length = pn := h.places.len
  have HTB : Hid (tabBy ⟨st, S, SH, Z, K, nok, C, P⟩ = beN 8 (u64N st) ++ liB sn (rnN S) ++ liB hn (rnN SH) ++ liB zn Z ++ keyB nok K ++ liB cn (rnN C) ++ liB pn P) := hide (by unfold tabBy; simp only [LS, LH, LZ, LC, LP])
  have q0 : (beN 8 (u64N st)).length = 8 := beN_len _ _
  have q1 : (liB sn (rnN S)).length = 4 + 16 * sn := by rw [liB_len, rnN_len, LS]; omega
  have q2 : (liB hn (rnN SH)).length = 4 + 16 * hn := by rw [liB_len, rnN_len, LH]; omega
  have q3 : (liB zn Z).length = 4 + 8 * zn := by rw [liB_len, LZ]
  have q4 : (keyB nok K).length ≤ 5 + 8 * kn := by rw [← LK]; exact keyB_len nok K
  have q5 : (liB cn (rnN C)).length = 4 + 16 * cn := by rw [liB_len, rnN_len, LC]; omega
  have HQ := hide (And.intro q0 (And.intro q1 (And.intro q2 (And.intro q3 (And.intro q4 q5)))))
  have HLK := hide LK
  have HLC := hide LC
  have HNK := hide h.nok
  have HH := hide h
  have E0 := hide (Ext.alloc w (.cells #[.int .i64 st, .slice sA sn sc, .slice hA hn hc, .slice zA zn zc, .slice kA kn kc, .slice cA cn cc, .slice pA pn pc] 73))
  have X0 := hide (Blk.new w 73 #[.int .i64 st, .slice sA sn sc, .slice hA hn hc, .slice zA zn zc, .slice kA kn kc, .slice cA cn cc, .slice pA pn pc])
  have e1 := fun (W : World) => Lib.run_eql_slice_nil (P := Try.prog) W 70 3 kA kn kc 0 0 Try.underlying70
  have HLT : Hid (∀ (α : Type) (sz : Nat) (enc : α → List Value) (A : Option Addr) (n c : Nat) (l : List α), At w sz enc A n c l → (∀ x, (enc x).length = sz) → 0 < sz → 0 < n → ∀ a, A = some a → a.block < w.heap.size) := hide (fun α sz enc A n c l ha h1 h2 h3 => ha.blk_lt h1 h2 h3)
  clear h q0 q1 q2 q3 q4 q5 LS LH LZ LK LC LP
  go_enter Try.func42, Try.ntmps42
  go_upto_region 1 with (fail)
  refine gen_wpC fun w0 h0 => ?_
  have hs0 : w0.heap.size = w.heap.size + 1 := by rw [h0]; exact World.size_alloc _ _
  have F0 : Hid (Ext w w0) := hide (by rw [h0]; exact E0.out)
  have Y0 : Hid (Blk w0 w.heap.size 73 #[.int .i64 st, .slice sA sn sc, .slice hA hn hc, .slice zA zn zc, .slice kA kn kc, .slice cA cn cc, .slice pA pn pc]) := hide (by rw [h0]; exact X0.out)
  clear h0 E0 X0
  have x0 : w0.cell? ⟨w.heap.size, 0, none⟩ = some (.int .i64 st) := Y0.out.cell 0
  have u0 : IntKind.u64.wrap st = ((u64N st : Nat) : Int) := (u64N_cast st).symm
  have HA0 := hide (appendNumberG (w := w0) (n := u64N st) (many := 8) (z := 8) (base := w0.heap.size) (Own.nil w0 w0.heap.size 5 1 e8) (Nat.le_refl _) rfl (by omega) (u64N_lt _) (by simp))
  have HAL := hide (fun (W : World) (v : Value) (l : List UInt8) (many n c : Nat) (A : Option Addr) (ns : List Int) (ho : Own W w0.heap.size 5 1 e8 v l) (hE : Ext w0 W) (ha : At W 1 e64 A n c ns) (hlo : 0 < n → ∀ a, A = some a → some a.block ≠ v.ownBlock) (h1 : many ≤ 1000000) (h2 : n ≤ 1000000) (h3 : l.length ≤ 100000000) => (appendList_any ho hE.size ha hlo h1 h2 h3).mono (R' := fun e w' => ∃ v', e = .returned v' ∧ Own w' w0.heap.size 5 1 e8 v' (l ++ liB many ns) ∧ Ext w0 w') (fun e w' ⟨v', he, ho', hg⟩ => ⟨v', he, ho', Own.below ho hE hg.grown (Nat.le_refl _)⟩))
  go_wp2_with fail
  with_reducible refine HA0.out.mono ?_
  rintro e w1 ⟨v1, rfl, o1, g1⟩
  rw [List.nil_append] at o1
  have O1 := hide o1
  have E1 : Hid (Ext w0 w1) := hide (Own.below (Own.nil w0 w0.heap.size 5 1 e8) (Ext.refl _) g1.grown (Nat.le_refl _))
  clear o1 g1 HA0 x0 u0
  have HRN1 := hide (fun (W : World) (hW : Ext w0 W) => runNumbers_any (HH.out.steps.ext (Ext.trans F0.out hW)) (by omega))
  have x1 : w1.cell? ⟨w.heap.size, 1, none⟩ = some (.slice sA sn sc) := (Y0.out.ext E1.out).cell 1
  have z1 : w0.cell? ⟨w.heap.size, 1, none⟩ = some (.slice sA sn sc) := Y0.out.cell 1
  have HLL : Hid ((beN 8 (u64N st)).length ≤ 100000000) := hide (by have := HQ.out; first | (simp only [List.length_append]; omega) | omega)
  have HRL : Hid (∀ g, v1.ownBlock = some g → g < w1.heap.size) := hide (fun g hg => (O1.out.lt g hg).2)
  go_upto_region 2 with (fail)
  go_region_held3 (fun w' => w'.cell? ⟨w.heap.size, 1, none⟩ = some (.slice sA sn sc)) (first | go_keep | exact EA.cell x1 | exact EB.cell z1) (first
    | ((go_at_call 69; with_reducible refine (HRN1.out _ (Ext.trans E1.out (Ext.drew _))).mono ?_); rintro e wa ⟨R, rk, rc, rfl, ra, re, rl⟩; have EA : Ext w1 wa := Ext.trans (Ext.drew _) re; have RA := hide ra; have RL := hide rl; have RK : Hid (rk ≤ 1000000) := hide (by have h9 := ra.len; rw [rnN_len, HH.out.steps.len] at h9; omega); clear ra re rl)
    | ((go_at_call 68; with_reducible refine (HAL.out _ _ _ sn _ _ _ _ (O1.out.ext EA) (Ext.trans E1.out EA) RA.out (fun _ a ha e => by have h8 := HRL.out _ e.symm; have h9 := RL.out a ha; exact absurd (Nat.lt_of_lt_of_le h8 h9) (Nat.lt_irrefl _)) (by omega) RK.out HLL.out).mono ?_); rintro e w2 ⟨v2, rfl, o2, EB⟩))
  all_goals
    have O2 := hide o2
    have E2 : Hid (Ext w0 w2) := hide EB
    clear o2 EB EA RA RL RK x1 z1 HRN1 HLL HRL O1 E1
  have HRN2 := hide (fun (W : World) (hW : Ext w0 W) => runNumbers_any (HH.out.shifts.ext (Ext.trans F0.out hW)) (by omega))
  have x2 : w2.cell? ⟨w.heap.size, 2, none⟩ = some (.slice hA hn hc) := (Y0.out.ext E2.out).cell 2
  have z2 : w0.cell? ⟨w.heap.size, 2, none⟩ = some (.slice hA hn hc) := Y0.out.cell 2
  have HLL : Hid ((beN 8 (u64N st) ++ liB sn (rnN S)).length ≤ 100000000) := hide (by have := HQ.out; first | (simp only [List.length_append]; omega) | omega)
  have HRL : Hid (∀ g, v2.ownBlock = some g → g < w2.heap.size) := hide (fun g hg => (O2.out.lt g hg).2)
  go_upto_region 3 with (fail)
  go_region_held3 (fun w' => w'.cell? ⟨w.heap.size, 2, none⟩ = some (.slice hA hn hc)) (first | go_keep | exact EA.cell x2 | exact EB.cell z2) (first
    | ((go_at_call 69; with_reducible refine (HRN2.out _ (Ext.trans E2.out (Ext.drew _))).mono ?_); rintro e wa ⟨R, rk, rc, rfl, ra, re, rl⟩; have EA : Ext w2 wa := Ext.trans (Ext.drew _) re; have RA := hide ra; have RL := hide rl; have RK : Hid (rk ≤ 1000000) := hide (by have h9 := ra.len; rw [rnN_len, HH.out.shifts.len] at h9; omega); clear ra re rl)
    | ((go_at_call 68; with_reducible refine (HAL.out _ _ _ hn _ _ _ _ (O2.out.ext EA) (Ext.trans E2.out EA) RA.out (fun _ a ha e => by have h8 := HRL.out _ e.symm; have h9 := RL.out a ha; exact absurd (Nat.lt_of_lt_of_le h8 h9) (Nat.lt_irrefl _)) (by omega) RK.out HLL.out).mono ?_); rintro e w3 ⟨v3, rfl, o3, EB⟩))
  all_goals
    have O3 := hide o3
    have E3 : Hid (Ext w0 w3) := hide EB
    clear o3 EB EA RA RL RK x2 z2 HRN2 HLL HRL O2 E2
  have x3 : w3.cell? ⟨w.heap.size, 3, none⟩ = some (.slice zA zn zc) := (Y0.out.ext E3.out).cell 3
  have HLL : Hid ((beN 8 (u64N st) ++ liB sn (rnN S) ++ liB hn (rnN SH)).length ≤ 100000000) := hide (by have := HQ.out; first | (simp only [List.length_append]; omega) | omega)
  have HA4 := hide (HAL.out _ _ _ zn _ _ _ _ O3.out E3.out (HH.out.sizes.ext (Ext.trans F0.out E3.out)) (fun hz0 a ha e => by have h8 := (O3.out.lt _ e.symm).1; have h9 := HLT.out _ _ _ _ _ _ _ HH.out.sizes len_e64 (by omega) hz0 a ha; omega) (by omega) (by omega) HLL.out)
  go_wp2_with fail
  with_reducible refine HA4.out.mono ?_
  rintro e w4 ⟨v4, rfl, o4, E4_⟩
  have O4 := hide o4
  have E4 : Hid (Ext w0 w4) := hide E4_
  clear o4 E4_ HA4 x3 HLL O3 E3
  have x4 : w4.cell? ⟨w.heap.size, 4, none⟩ = some (.slice kA kn kc) := (Y0.out.ext E4.out).cell 4
  have y4 : w0.cell? ⟨w.heap.size, 4, none⟩ = some (.slice kA kn kc) := Y0.out.cell 4
  have HLL : Hid ((beN 8 (u64N st) ++ liB sn (rnN S) ++ liB hn (rnN SH) ++ liB zn Z).length ≤ 1000000) := hide (by have := HQ.out; first | (simp only [List.length_append]; omega) | omega)
  obtain ⟨i0_, hi0, hz0, hz1, hz2⟩ := info_parts Try.info5
  obtain ⟨j0_, hj0, hy0, hy1, hy2⟩ := info_parts Try.info3
  have S1 : Hid ((beN 8 (u64N st) ++ liB sn (rnN S) ++ liB hn (rnN SH) ++ liB zn Z).length + 1 ≤ maxLen) := hide (by have := HLL.out; unfold maxLen; omega)
  have S2 : Hid (((beN 8 (u64N st) ++ liB sn (rnN S) ++ liB hn (rnN SH) ++ liB zn Z).length + 1) * 1 ≤ 140737488355328) := hide (by have := HLL.out; omega)
  have hsz4 := E4.out.size
  generalize hl4 : (beN 8 (u64N st) ++ liB sn (rnN S) ++ liB hn (rnN SH) ++ liB zn Z) = l4 at *
  have HL4 := hide hl4
  clear hl4
  go_upto_if 36 with (fail)
  go_cut [3] (fun s3 wx => Hid (Own wx w0.heap.size 5 1 e8 s3 (l4 ++ keyB nok K)) ∧ Hid (Ext w0 wx))
  case first =>
    cases hk : nok with
    | true =>
      have hkA : kA = none := HNK.out.2 hk
      have dk : kA.isNone = true := by rw [hkA]; rfl
      have HKB : Hid (keyB nok K = [0]) := hide (by rw [hk]; rfl)
      rw [dk]
      have S3 : Hid (w0.heap.size ≤ (w4.alloc (.cells #[.int .u8 0] 5)).heap.size) := hide (by rw [World.size_alloc]; omega)
      clear hkA hk
      go_wp2_with (at_builtin; refine wpList_append_at _ rfl (.tmp 37) (.tmp 38) 26 rfl w0.heap.size 5 i0_ _ 1 Try.underlying26 hi0 hz0 hz1 hz2 rfl (by omega) len_e8 one_e8 _ _ (by rfl) (O4.out.ext (Ext.alloc _ _)) (some ⟨w4.heap.size, 0, none⟩) 1 1 [0] (by rfl) (At.new1 w4 0 _ rfl _) S1.out S2.out S3.out ?_; intro v7 w7 o7 g7 _ _; have O7 := hide o7; have E7 : Hid (Ext w0 w7) := hide (Own.below (O4.out.ext (Ext.alloc _ _)) (Ext.trans E4.out (Ext.alloc _ _)) g7 (Nat.le_refl _)); clear o7 g7)
      go_meet
      exact ⟨hide (by rw [HKB.out]; exact O7.out), E7⟩
    | false =>
      have hkA : ¬ kA = none := fun e => by have := HNK.out.1 e; rw [hk] at this; cases this
      have dk : kA.isNone = false := by cases kA with
        | none => exact absurd rfl hkA
        | some a => rfl
      have HKB : Hid (keyB nok K = [1] ++ liB kn K) := hide (by rw [hk]; unfold keyB; rw [if_neg (by simp), HLK.out])
      rw [dk]
      have S3 : Hid (w0.heap.size ≤ (w4.alloc (.cells #[.int .u8 1] 5)).heap.size) := hide (by rw [World.size_alloc]; omega)
      clear hkA hk
      go_wp2_with fail
      go_region_held3 (fun w' => w'.cell? ⟨w.heap.size, 4, none⟩ = some (.slice kA kn kc)) (first | go_keep | exact (Ext.alloc _ _).cell x4 | exact E7.cell y4 | exact EB.cell y4 | exact E4.out.cell y4 | exact (Ext.trans E4.out (by first | exact Ext.trans (Ext.drew _) (Ext.alloc _ _) | exact Ext.trans (Ext.alloc _ _) (Ext.drew _))).cell y4) (first
        | ((refine step_append_at rfl (.tmp 40) (.tmp 41) 26 rfl w0.heap.size 5 i0_ _ 1 Try.underlying26 hi0 hz0 hz1 hz2 rfl (by omega) len_e8 one_e8 _ _ (by simp [Act.eval]) (O4.out.ext (Ext.trans (Ext.drew _) (Ext.alloc _ _))) (some ⟨w4.drew.heap.size, 0, none⟩) 1 1 [1] (by simp [Act.eval]) (At.new1 w4.drew 1 _ rfl _) S1.out S2.out S3.out ?_); intro v7 w7 o7 g7 _ _; have O7 := hide o7; have E7 : Ext w0 w7 := Own.below (O4.out.ext (Ext.trans (Ext.drew _) (Ext.alloc _ _))) (Ext.trans E4.out (Ext.trans (Ext.drew _) (Ext.alloc _ _))) g7 (Nat.le_refl _); clear o7 g7)
        | ((go_at_call 68; with_reducible refine (HAL.out _ _ _ kn _ _ _ _ O7.out E7 (HH.out.keys.ext (Ext.trans F0.out E7)) (fun hz0 a ha e => by have h8 := (O7.out.lt _ e.symm).1; have h9 := HLT.out _ _ _ _ _ _ _ HH.out.keys len_e64 (by omega) hz0 a ha; omega) (by omega) (by omega) (by have := HLL.out; rw [List.length_append]; simp; omega)).mono ?_); rintro e w8 ⟨v8, rfl, o8, EB⟩))
      all_goals
        have O8 := hide o8
        have E8 : Hid (Ext w0 w8) := hide EB
        clear o8 EB
        go_wp2_with fail
        go_meet
        exact ⟨hide (by rw [HKB.out, ← List.append_assoc]; exact O8.out), E8⟩
  case rest =>
  obtain ⟨O5, E5⟩ := hcut
  obtain ⟨w5, hw5⟩ : ∃ w5, w5 = wc := ⟨_, rfl⟩
  subst hw5
  clear O4 E4 x4 y4 S1 S2 e1 hi0 hz0 hz1 hz2
  have HL5 : Hid ((l4 ++ keyB nok K).length ≤ 10000000) := hide (by have h9 := HQ.out.2.2.2.2.1; have := HLL.out; rw [List.length_append]; omega)
  clear HLL hsz4
  generalize hl5 : l4 ++ keyB nok K = l5 at *
  have HLE5 := hide hl5
  clear hl5
  have x5 : w5.cell? ⟨w.heap.size, 5, none⟩ = some (.slice cA cn cc) := (Y0.out.ext E5.out).cell 5
  go_wp2_with fail
  go_loopw [4, 52] (fun r4 ri wr => ∃ k : Nat, k ≤ cn ∧ ri = .int .i64 k ∧ Hid (Own wr w5.heap.size 3 1 e64 r4 (rnN (C.take k))) ∧ Hid (Ext w5 wr)) (fun _ ri _ => cn - (intOf ri).toNat)
  case atStart => exact ⟨0, by omega, rfl, hide (by simpa [rnN] using Own.nil _ _ _ _ _), hide (Ext.refl _)⟩
  case round =>
    obtain ⟨k, hk, rfl, HO, HX⟩ := hrel
    have HXW := hide (Ext.trans F0.out (Ext.trans E5.out HX.out))
    by_cases hlt : k < cn
    · obtain ⟨b, off, rfl, _⟩ := HH.out.chunks.addr (by omega)
      obtain ⟨a0, a1⟩ := (HH.out.chunks.ext HXW.out).pair hlt
      simp only at a0 a1
      have HSU : Hid (rnN (C.take (k + 1)) = rnN (C.take k) ++ [(C.getD k (0, 0)).1, (C.getD k (0, 0)).2]) := hide (rnN_take (by have := HLC.out; omega))
      generalize (C.getD k (0, 0)).1 = x at *
      generalize (C.getD k (0, 0)).2 = y at *
      have hlk : (rnN (C.take k)).length = 2 * k := by rw [rnN_len, List.length_take]; have := HLC.out; omega
      have i1 : (k : Int) < (cn : Int) := by omega
      have i0 : (0 : Int) ≤ (k : Int) := by omega
      have i8 : IntKind.i64.wrap ((k : Int) + 1) = (k : Int) + 1 := by rw [IntKind.wrap_i64]; omega
      have S1 : Hid ((rnN (C.take k)).length + 2 ≤ maxLen) := hide (by rw [hlk]; unfold maxLen; omega)
      have S2 : Hid (((rnN (C.take k)).length + 2) * 8 ≤ 140737488355328) := hide (by rw [hlk]; omega)
      clear hlk
      go_upto_region 12 with (fail)
      refine gen_wpC fun w6 h6 => ?_
      have F6 : Hid (Ext wr w6) := hide (by rw [h6]; exact Ext.alloc _ _)
      have y0 : w6.cell? ⟨wr.heap.size, 0, none⟩ = some (.int .i64 x) := by rw [h6]; exact (Blk.new wr _ _).cell 0
      have y1 : w6.cell? ⟨wr.heap.size, 1, none⟩ = some (.int .i64 y) := by rw [h6]; exact (Blk.new wr _ _).cell 1
      have S3 : Hid (w5.heap.size ≤ (w6.alloc (.cells #[.int .i64 x, .int .i64 y] 3)).heap.size) := hide (by have := (Ext.trans HX.out F6.out).size; rw [World.size_alloc]; omega)
      clear h6 a0 a1
      go_wp2_with (at_builtin; refine wpList_append_at _ rfl (.tmp 56) (.tmp 61) 70 rfl w5.heap.size 3 j0_ _ 8 Try.underlying70 hj0 hy0 hy1 hy2 rfl (by omega) len_e64 one_e64 _ _ (by rfl) (HO.out.ext (Ext.trans F6.out (Ext.alloc _ _))) (some ⟨w6.heap.size, 0, none⟩) 2 2 [x, y] (by rfl) (At.newI2 w6 x y _) S1.out S2.out S3.out ?_; intro v7 w7 o7 g7 _ _; have O7 := hide o7; have G7 := hide g7; clear o7 g7)
      have E7 : Hid (Ext w5 w7) := hide (Own.below (HO.out.ext (Ext.trans F6.out (Ext.alloc _ _))) (Ext.trans HX.out (Ext.trans F6.out (Ext.alloc _ _))) G7.out (Nat.le_refl _))
      exact ⟨⟨k + 1, by omega, by go_num, hide (by rw [HSU.out]; exact O7.out), E7⟩, by simp [intOf]; omega⟩
    · obtain rfl : k = cn := by omega
      obtain ⟨vA, vc, hv, hat⟩ := HO.out.at_ len_e64
      have hln : (rnN (C.take k)).length = 2 * k := by rw [rnN_len, List.length_take]; have := HLC.out; omega
      have HTK : Hid (C.take k = C) := hide (List.take_of_length_le (by have := HLC.out; omega))
      have HAT := hide hat
      have HLO := HO.out.lt
      subst hv
      have EW := hide (Ext.trans E5.out HX.out)
      have HRL : Hid (∀ g, u3.ownBlock = some g → g < w5.heap.size) := hide (fun g hg => (O5.out.lt g hg).2)
      have x5 : wr.cell? ⟨w.heap.size, 5, none⟩ = some (.slice cA k cc) := (Y0.out.ext EW.out).cell 5
      have HA5 := hide (HAL.out _ _ _ k _ _ _ _ (O5.out.ext HX.out) EW.out HAT.out (fun _ a ha e => by subst ha; have h8 := HRL.out _ e.symm; have h9 := (HLO a.block rfl).1; omega) (by omega) (by omega) (by have := HL5.out; omega))
      clear hlt hat hln
      go_wp2_with fail
      with_reducible refine HA5.out.mono ?_
      rintro e w6 ⟨v6, rfl, o6, E6_⟩
      rw [HTK.out] at o6
      have O6 := hide o6
      have E6 : Hid (Ext w0 w6) := hide E6_
      clear o6 E6_ HA5 x5
      have x6 : w6.cell? ⟨w.heap.size, 6, none⟩ = some (.slice pA pn pc) := (Y0.out.ext E6.out).cell 6
      have HA6 := hide (HAL.out _ _ _ pn _ _ _ _ O6.out E6.out (HH.out.places.ext (Ext.trans F0.out E6.out)) (fun hz0 a ha e => by have h8 := (O6.out.lt _ e.symm).1; have h9 := HLT.out _ _ _ _ _ _ _ HH.out.places len_e64 (by omega) hz0 a ha; omega) (by omega) (by omega) (by have := HL5.out; have h9 := HQ.out.2.2.2.2.2; rw [List.length_append]; omega))
      go_wp2_with fail
      with_reducible refine HA6.out.mono ?_
      rintro e w7 ⟨v7, rfl, o7, E7_⟩
      have E7 : Hid (Ext w0 w7) := hide E7_
      obtain ⟨A7, c7, hv7, _⟩ := o7.at_ len_e8
      subst hv7
      have O7 := hide o7
      clear o7 E7_ HA6 x6
      go_wp2_with fail
      go_ret
      refine ⟨_, _, _, rfl, ?_, Ext.trans F0.out E7.out⟩
      rw [HTB.out, ← hs0]
      have h9 := O7.out
      rw [show (l5 ++ liB k (rnN C) ++ liB pn P).length = l5.length + ((liB k (rnN C)).length + (liB pn P).length) from by simp only [List.length_append]; omega] at h9
      exact h9
end Go.Proofs.Ytlonhkjplijlcaa
