/- Proved: for every film, trace, player, promise and choices PlaySureNeverStalls returns true: who is sure does not stall on a trace that keeps the promise; the least Start is the least; the arguments read as they did. Conditions: none. -/
import Derived.Test.YtjbgkoeojfmkkaaOpens
import Derived.Test.YtjbgkoeojfmkkaaWithP
import Derived.Test.YtjbgkoeojfmkkaaFasA
import Derived.Test.YtjbgkoeojfmkkaaPrmT
import Derived.Test.YtjbgkoeojfmkkaaKeepT
import Derived.Test.YtjbgkoeojfmkkaaAwakeP
import Derived.Test.YtjbgkoeojfmkkaaOpen
import Derived.Test.YtjbgkoeojfmkkaaLawG
namespace Go.Proofs.Ytjbgkoeojfmkkaa
open Go.ChangeShapes Go.WideShapes Go.ChangeAt Go.RowKit Go.Joins Go.Deep

section
variable {H : Type} {enc : TypeId × Value → H} {P : Program}
/-- An argument that is a slice: dec reads an element of sz cells. -/
theorem open_elemsQ {α : Type} {en : α → List Value} {good : α → Prop} {sz : Nat} {t e : TypeId} (hts : P.underlying t = some (.slice e)) (hC : P.cellsOf e = sz) (hz : 0 < sz) {W : World}
    (dec : ∀ (cs : List Value) (n : Nat) (y : DataW H × List MemPlace), cs.length = sz → DataW.trod enc P W 0 (fun _ => true) true n e cs = some y → ∃ x : α, good x ∧ en x = cs)
    {A : Option Addr} {n c fuel : Nat} {d : DataW H} {p : List MemPlace} (hf : DataW.trod enc P W 0 (fun _ => true) true fuel t [.slice A n c] = some (d, p)) :
    ∃ l, At W sz en A n c l ∧ (∀ x ∈ l, good x) ∧ Takes d c := by
  rcases open_slice hts hf with ⟨hcs, hx⟩ | ⟨a, len, cap, m, k, D, Pl, hcs, _, hl, hm, hmm, hx, hi⟩
  · simp at hcs
    obtain ⟨rfl, rfl, rfl⟩ := hcs
    simp only [Prod.mk.injEq] at hx
    exact ⟨[], At.nil _ _ _, fun x hx => by simp at hx, .inl ⟨hx.1, rfl⟩⟩
  · simp at hcs
    obtain ⟨rfl, rfl, rfl⟩ := hcs
    simp only [Prod.mk.injEq] at hx
    simp only [if_true] at hmm
    subst hmm
    have hT : Takes d m := .inr ⟨_, _, hx.1, by simp; omega⟩
    rcases Nat.eq_zero_or_pos m with h0 | h0
    · subst h0
      obtain rfl : n = 0 := by omega
      exact ⟨[], ⟨rfl, Nat.le_refl _, hm, fun h => (by cases h), fun k x hx => by simp at hx⟩, fun x hx => by simp at hx, hT⟩
    · have hsz0 : ∀ i, i < m → ∃ cs', (∀ j, j < sz → W.cell? ((a.add (i * sz)).add j) = cs'[j]?) ∧ cs'.length = sz ∧ ∃ x, good x ∧ en x = cs' := by
        intro i him
        obtain ⟨cs', hc, ht'⟩ := hi i him
        rw [hC] at hc
        obtain ⟨_, hcl, hat⟩ := World.cells?_some hc
        exact ⟨cs', hat, hcl, dec cs' _ _ hcl ht'⟩
      obtain ⟨b, off, spot⟩ := a
      have hs : spot = none := by
        obtain ⟨cs', h1, h2, _⟩ := hsz0 0 h0
        have h3 := h1 0 hz
        rw [List.getElem?_eq_getElem (by omega)] at h3
        have h4 : (((⟨b, off, spot⟩ : Addr).add (0 * sz)).add 0) = ⟨b, off, spot⟩ := by rw [Nat.zero_mul]; unfold Addr.add; rfl
        rw [h4] at h3
        exact cell_spot h3
      subst hs
      obtain ⟨l, h1, h2⟩ := At.of_key (w := W) (sz := sz) (enc := en) (good := good) (b := b) (off := off) hl hm (fun i hin => by
        obtain ⟨cs', g1, g2, x, hx, he⟩ := hsz0 i (by omega)
        refine ⟨x, hx, fun j u hu => ?_⟩
        have hj : j < sz := by
          have := (List.getElem?_eq_some_iff.1 hu).1
          rw [he] at this; omega
        have := g1 j hj
        rw [add_of_add, Addr.add_lit] at this
        rw [show off + i * sz + j = off + (i * sz + j) by omega, this, ← he, hu])
      exact ⟨l, h1, h2, hT⟩
theorem open_elemsP {α : Type} {en : α → List Value} {good : α → Prop} {sz : Nat} {t e : TypeId} (hts : P.underlying t = some (.slice e)) (hC : P.cellsOf e = sz) (hz : 0 < sz) {W : World}
    (dec : ∀ (cs : List Value) (n : Nat) (y : DataW H × List MemPlace), cs.length = sz → DataW.trod enc P W 0 (fun _ => true) true n e cs = some y → ∃ x : α, good x ∧ en x = cs)
    {base : Nat} {v : Value} {d : DataW H} {p : List MemPlace} (hv : Value.okWide P W .any base t v) (h : DataW.Trod enc P W 0 (fun _ => true) true t v d p) :
    ∃ A n c l, v = .slice A n c ∧ At W sz en A n c l ∧ (∀ x ∈ l, good x) ∧ Takes d c := by
  obtain ⟨A, n, c, rfl⟩ := okWide_slice hts hv
  obtain ⟨fuel, hf⟩ := h
  obtain ⟨l, h1, h2, h3⟩ := open_elemsQ hts hC hz dec (by simpa [Value.cells] using hf)
  exact ⟨A, n, c, l, rfl, h1, h2, h3⟩
/-- A field that is a slice of structs whose fields have a cell each. -/
theorem fldElems {α : Type} {en : α → List Value} {good : α → Prop} {sz : Nat} {t e : TypeId} (hts : P.underlying t = some (.slice e)) (hC : P.cellsOf e = sz) (hz : 0 < sz) {W : World}
    (dec : ∀ (cs : List Value) (n : Nat) (y : DataW H × List MemPlace), cs.length = sz → DataW.trod enc P W 0 (fun _ => true) true n e cs = some y → ∃ x : α, good x ∧ en x = cs)
    {n : Nat} {v : Value} {y : DataW H × List MemPlace} (h : DataW.trod enc P W 0 (fun _ => true) true n t [v] = some y) : ∃ A n c l, v = .slice A n c ∧ At W sz en A n c l ∧ (∀ x ∈ l, good x) := by
  have hv : ∃ A n c, v = .slice A n c := by
    rcases open_slice hts h with ⟨hcs, _⟩ | ⟨a, len, cap, m, k, D, Pl, hcs, _⟩
    · injection hcs with hcs _; exact ⟨_, _, _, hcs⟩
    · injection hcs with hcs _; exact ⟨_, _, _, hcs⟩
  obtain ⟨A, k, c, rfl⟩ := hv
  obtain ⟨d, p⟩ := y
  obtain ⟨l, h1, h2, _⟩ := open_elemsQ hts hC hz dec h
  exact ⟨A, k, c, l, rfl, h1, h2⟩
/-- What a field of a struct is, in its cells. -/
theorem fldAt {W : World} {n c : Nat} {t : TypeId} {vs : List Value} {cs : List Value} {r : Option (DataW H × List MemPlace)} (hs : (cs.drop c).take (P.cellsOf t) = vs) {off : Nat} (ho : off = c) (h : DataW.trod enc P W 0 (fun _ => true) true n t ((cs.drop off).take (P.cellsOf t)) = r) :
    DataW.trod enc P W 0 (fun _ => true) true n t vs = r := by
  subst ho; rw [hs] at h; exact h
end
section
variable {H : Type} {enc : TypeId × Value → H} {P : Program} {w : World} {base : Nat} {spare : Nat → Bool} {held : Bool}
theorem trodAll5 {t t' t2 t3 t4 : TypeId} {args : Array Value} {ds : List (DataW H)} {ps : List MemPlace} (h : DataW.TrodAll enc P w base spare held [t, t', t2, t3, t4] args.toList ds ps) :
    ∃ v v' v2 v3 v4 d d' d2 d3 d4 p p' p2 p3 p4, args = #[v, v', v2, v3, v4] ∧ ds = [d, d', d2, d3, d4] ∧ ps = p ++ p' ++ p2 ++ p3 ++ p4 ∧ DataW.Trod enc P w base spare held t v d p ∧ DataW.Trod enc P w base spare held t' v' d' p' ∧ DataW.Trod enc P w base spare held t2 v2 d2 p2 ∧ DataW.Trod enc P w base spare held t3 v3 d3 p3 ∧ DataW.Trod enc P w base spare held t4 v4 d4 p4 := by
  obtain ⟨v, vs, d, ds', p, q, hargs, rfl, rfl, hd, hrest⟩ := trodAll_cons h
  obtain ⟨v', vs', d', ds1, p', q', rfl, rfl, rfl, hd', hrest'⟩ := trodAll_cons hrest
  obtain ⟨v2, vs2, d2, ds2, p2, q2, rfl, rfl, rfl, hd2, hrest2⟩ := trodAll_cons hrest'
  obtain ⟨v3, vs3, d3, ds3, p3, q3, rfl, rfl, rfl, hd3, hrest3⟩ := trodAll_cons hrest2
  obtain ⟨v4, vs4, d4, ds4, p4, q4, rfl, rfl, rfl, hd4, hrest4⟩ := trodAll_cons hrest3
  obtain ⟨rfl, rfl, rfl⟩ := trodAll_nil hrest4
  exact ⟨v, v', v2, v3, v4, d, d', d2, d3, d4, p, p', p2, p3, p4, by cases args; simp_all, rfl, by simp, hd, hd', hd2, hd3, hd4⟩
end
end Go.Proofs.Ytjbgkoeojfmkkaa
namespace Go.Proofs.Ytjbgkoeojfmkkaa
section
variable {L : List Int} {S : List (List Int)} {Q : List Int} {T : List (Int × Int)} {C : List Int} {full start resume : Int} {pk : Nat → Int → Int → List (Int × Int) → Int → Int} {av : Int → Int → Int}
theorem came_buf {start resume long t : Int} {last : Bool} {s : WaT} (h : okW s) (ht : s.at_ ≤ t) : (camT start resume long t last s).buf ≤ s.buf + long := by
  obtain ⟨a0, b0, p0, g0, s0, e0, l0⟩ := s
  unfold okW at h
  unfold camT landT passT drainT
  cases p0 <;> cases g0 <;> cases last <;> grind
theorem fol_get : ∀ n i, i < n → (folF full start resume L S pk av n).asd.getD i 0 = asN full start resume L S pk av i ∧ (folF full start resume L S pk av n).arr.getD i 0 = tN full start resume L S pk av i
  | 0, i, h => by omega
  | n + 1, i, h => by
    have ih := fol_get n
    obtain ⟨h1, h2, h3, _⟩ := fol_len full start resume L S pk av n
    have e1 : (folF full start resume L S pk av (n + 1)).asd = (folF full start resume L S pk av n).asd ++ [asN full start resume L S pk av n] := rfl
    have e2 : (folF full start resume L S pk av (n + 1)).arr = (folF full start resume L S pk av n).arr ++ [tN full start resume L S pk av n] := rfl
    rw [e1, e2]
    by_cases hi : i < n
    · have := ih i hi
      rw [← this.1, ← this.2]
      simp [List.getD, List.getElem?_append, h2, h3, hi]
    · obtain rfl : i = n := by omega
      simp [List.getD, h2, h3]
theorem buf_sum {M D : Int} (hR : RunOk full start resume L S pk av M D) : ∀ n, n ≤ L.length → (folF full start resume L S pk av n).w.buf ≤ sumI L n
  | 0, _ => by simp [folF, FoT.zero, WaT.zero, sumI]
  | n + 1, hn => by
    have ih := buf_sum hR n (by omega)
    obtain ⟨h1, h2, h3, h4⟩ := hR.all n (by omega)
    have hf := hR.few
    obtain ⟨_, c1, _⟩ := hR.comes n (by omega) h1 h2 (by omega)
    have hb := ask_bd (full := full) (long := L.getD n 0) h1
    have e0 : asN full start resume L S pk av n = askT full (L.getD n 0) (folF full start resume L S pk av n).w := rfl
    have e : (folF full start resume L S pk av (n + 1)).w = camT start resume (L.getD n 0) (tN full start resume L S pk av n) (decide (n + 1 = L.length)) (folF full start resume L S pk av n).w := rfl
    have := came_buf (start := start) (resume := resume) (long := L.getD n 0) (last := decide (n + 1 = L.length)) h1 (t := tN full start resume L S pk av n) (by omega)
    rw [e, sumI_succ (by omega)]
    omega
theorem sumI_mono {l : List Int} (h : ∀ i, i < l.length → 0 ≤ l.getD i 0) : ∀ m n, m ≤ n → n ≤ l.length → sumI l m ≤ sumI l n
  | m, 0, h1, h2 => by obtain rfl : m = 0 := by omega
                       exact Int.le_refl _
  | m, n + 1, h1, h2 => by
    by_cases e : m = n + 1
    · rw [e]; exact Int.le_refl _
    · have := sumI_mono h m n (by omega) (by omega)
      rw [sumI_succ (by omega)]
      have := h n (by omega)
      omega
/-- With a buffer as large as all of the film it asks at once. -/
theorem as_roomy {M D : Int} (hR : RunOk full start resume L S pk av M D) (hs : L.sum ≤ full) (n : Nat) (hn : n + 1 < L.length) : asN full start resume L S pk av (n + 1) = tN full start resume L S pk av n := by
  have hb := buf_sum hR (n + 1) (by omega)
  obtain ⟨h1, _⟩ := hR.all (n + 1) (by omega)
  have e0 : asN full start resume L S pk av (n + 1) = askT full (L.getD (n + 1) 0) (folF full start resume L S pk av (n + 1)).w := rfl
  have e : (folF full start resume L S pk av (n + 1)).w = camT start resume (L.getD n 0) (tN full start resume L S pk av n) (decide (n + 1 = L.length)) (folF full start resume L S pk av n).w := rfl
  have ha : (folF full start resume L S pk av (n + 1)).w.at_ = tN full start resume L S pk av n := by rw [e, camT_at]
  have hq := sumI_mono (fun i hi => (hR.longs i hi).1) (n + 2) L.length (by omega) (by omega)
  rw [sumI_all rfl, sumI_succ (by omega)] at hq
  have h0 := h1.1
  rw [e0, ← ha]
  unfold askT
  split <;> omega
end
section
variable {L : List Int} {S : List (List Int)} {Q : List Int} {T : List (Int × Int)} {C : List Int} {d0 s0 r0 f0 : Int}
theorem fast_le {m : Int} (hF : filmF L S Q = 0) (hT : trcF T = 0) (hT' : trcF (fastT m T) = 0) (hm : 0 ≤ m) (hd : 0 ≤ d0 ∧ d0 ≤ 100000) (hC : chsF L.length S.length C = 0) (hs : L.sum ≤ 1000000000)
    (hw : NoWait (folF f0 s0 r0 L S (gvF C) (trF T d0) L.length).asd (folF f0 s0 r0 L S (gvF C) (trF T d0) L.length).arr L.length) :
    ∀ i, i < L.length → (folF 1000000000 s0 r0 L S (gvF C) (trF (fastT m T) d0) L.length).arr.getD i 0 ≤ (folF f0 s0 r0 L S (gvF C) (trF T d0) L.length).arr.getD i 0 := by
  have hR := run_trace (f0 := f0) (s0 := s0) (r0 := r0) hF hT hd hC
  have hR' := run_trace (f0 := 1000000000) (s0 := s0) (r0 := r0) hF hT' hd hC
  have hl := hR.few
  have hz : ∀ i, i < L.length → 0 ≤ (S.getD (C.getD i 0).toNat []).getD i 0 ∧ (S.getD (C.getD i 0).toNat []).getD i 0 ≤ 1000000000 := fun i _ => size_any (filmF_ok hF) _ _
  have hlow : ∀ n, n < L.length → 0 ≤ asN f0 s0 r0 L S (gvF C) (trF T d0) n ∧ asN f0 s0 r0 L S (gvF C) (trF T d0) n ≤ 500000000000000000 := fun n hn => by
    obtain ⟨h1, h2, h3, _⟩ := hR.all n (by omega)
    have hb := ask_bd (full := f0) (long := L.getD n 0) h1
    have e2 : asN f0 s0 r0 L S (gvF C) (trF T d0) n = askT f0 (L.getD n 0) (folF f0 s0 r0 L S (gvF C) (trF T d0) n).w := rfl
    have : (n : Int) * 1000100000 ≤ 200 * 1000100000 := by omega
    omega
  have hlow' : ∀ n, n < L.length → 0 ≤ asN 1000000000 s0 r0 L S (gvF C) (trF (fastT m T) d0) n := fun n hn => by
    obtain ⟨h1, h2, h3, _⟩ := hR'.all n (by omega)
    have hb := ask_bd (full := 1000000000) (long := L.getD n 0) h1
    have e2 : asN 1000000000 s0 r0 L S (gvF C) (trF (fastT m T) d0) n = askT 1000000000 (L.getD n 0) (folF 1000000000 s0 r0 L S (gvF C) (trF (fastT m T) d0) n).w := rfl
    omega
  have key : ∀ i, i < L.length → asN 1000000000 s0 r0 L S (gvF C) (trF (fastT m T) d0) i ≤ asN f0 s0 r0 L S (gvF C) (trF T d0) i → tN 1000000000 s0 r0 L S (gvF C) (trF (fastT m T) d0) i ≤ tN f0 s0 r0 L S (gvF C) (trF T d0) i := fun i hi h => by
    have e1 : tN 1000000000 s0 r0 L S (gvF C) (trF (fastT m T) d0) i = endsP (fastT m T) (asN 1000000000 s0 r0 L S (gvF C) (trF (fastT m T) d0) i + d0) ((S.getD (C.getD i 0).toNat []).getD i 0) := rfl
    have e2 : tN f0 s0 r0 L S (gvF C) (trF T d0) i = endsP T (asN f0 s0 r0 L S (gvF C) (trF T d0) i + d0) ((S.getD (C.getD i 0).toNat []).getD i 0) := rfl
    have := hlow i hi
    have := hlow' i hi
    rw [e1, e2]
    exact ends_fast hT hm (hz i hi) ⟨by omega, by omega, by omega⟩
  intro i
  induction i with
  | zero =>
    intro hi
    rw [(fol_get _ _ hi).2, (fol_get _ _ hi).2]
    exact key 0 hi (Int.le_refl _)
  | succ i ih =>
    intro hi
    have h1 := ih (by omega)
    rw [(fol_get _ _ (by omega)).2, (fol_get _ _ (by omega)).2] at h1 ⊢
    have h2 := hw (i + 1) (by omega) hi
    rw [(fol_get _ _ hi).1, Nat.add_sub_cancel, (fol_get _ _ (by omega)).2] at h2
    refine key (i + 1) hi ?_
    rw [as_roomy hR' hs i hi, h2]
    exact h1
/-- The faults of a faster trace. -/
theorem fast_getD (m : Int) (l : List (Int × Int)) (i : Nat) (h : i < l.length) : (fastT m l).getD i (0, 0) = ((l.getD i (0, 0)).1, (l.getD i (0, 0)).2 + m) := by
  unfold fastT
  simp [List.getD, h]
theorem firstF_01 {g : Nat → Int} : ∀ {n : Nat}, (∀ j, j < n → g j = 0 ∨ g j = 1) → firstF g n = 0 ∨ firstF g n = 1
  | 0, _ => .inl rfl
  | n + 1, h => by
    have ih := firstF_01 (g := g) (n := n) (fun j hj => h j (by omega))
    have := h n (by omega)
    rw [firstF]
    split <;> assumption
theorem trc_fast {m : Int} (hm : 0 ≤ m) (h : trcF T = 0) : trcF (fastT m T) = 0 ∨ trcF (fastT m T) = 1 := by
  obtain ⟨h1, h2, h3, h4⟩ := trcF_zero h
  have hl : (fastT m T).length = T.length := by unfold fastT; simp
  have he : ∀ j, j < T.length → trEl (fastT m T) j = 0 ∨ trEl (fastT m T) j = 1 := fun j hj => by
    obtain ⟨q1, q2, q3, q4⟩ := trEl_zero (h3 j hj)
    unfold trEl
    rw [fast_getD m T j hj]
    rw [if_neg (by omega), if_neg (by
      by_cases j0 : j = 0
      · have := q3 j0; omega
      · rw [fast_getD m T (j - 1) (by omega)]
        have := q4 (by omega); omega)]
    split <;> omega
  have hf := firstF_01 he
  have ht := trEl_zero (h3 (T.length - 1) (by omega))
  have hx : ((fastT m T).getD (T.length - 1) (0, 0)).2 = (T.getD (T.length - 1) (0, 0)).2 + m := by rw [fast_getD m T _ (by omega)]
  unfold trcF
  rw [hl, hx]
  rw [if_neg (by omega), if_neg (by omega)]
  split
  · assumption
  · rw [if_neg (by omega)]; exact .inl rfl
theorem with_fast {i0 k0 l0 t0 lo0 hi0 a0 x0 y0 z0 m : Int} (hm : 0 ≤ m) (h : withF L S Q T C d0 s0 r0 f0 i0 k0 l0 t0 lo0 hi0 a0 x0 y0 z0 = 0) :
    withF L S Q (fastT m T) C d0 s0 r0 1000000000 i0 k0 l0 t0 lo0 hi0 a0 x0 y0 z0 = 0 ∧ trcF (fastT m T) = 0 ∨ withF L S Q (fastT m T) C d0 s0 r0 1000000000 i0 k0 l0 t0 lo0 hi0 a0 x0 y0 z0 = 1 := by
  have hr : runF L S Q T d0 s0 r0 f0 i0 k0 l0 t0 lo0 hi0 a0 x0 y0 z0 = 0 := by
    apply Classical.byContradiction; intro hc
    unfold withF at h; rw [if_pos hc] at h; exact hc h
  have hc : chsF L.length S.length C = 0 := by
    unfold withF at h; rw [if_neg (by omega)] at h; exact h
  obtain ⟨z1, z2, z3, z4⟩ := runF_zero hr
  have hp : playF S.length d0 s0 r0 f0 i0 k0 l0 t0 lo0 hi0 a0 x0 y0 z0 = 0 := by
    unfold runF at hr
    rw [z1, z2, if_neg (by decide)] at hr
    exact hr
  have hp' : playF S.length d0 s0 r0 1000000000 i0 k0 l0 t0 lo0 hi0 a0 x0 y0 z0 = playF S.length d0 s0 r0 f0 i0 k0 l0 t0 lo0 hi0 a0 x0 y0 z0 := by
    have e : plrF d0 s0 r0 1000000000 i0 k0 l0 t0 lo0 hi0 a0 x0 y0 z0 = plrF d0 s0 r0 f0 i0 k0 l0 t0 lo0 hi0 a0 x0 y0 z0 := by
      unfold plrF
      congr 1
      apply propext
      constructor <;> intro h <;> omega
    unfold playF fstF
    rw [e]
  rw [hp] at hp'
  rcases trc_fast hm z2 with e | e
  · left
    refine ⟨?_, e⟩
    unfold withF runF
    rw [z1, e, if_neg (show ¬ firstNZ [0, 0] ≠ 0 by decide), hp', if_neg (by omega)]
    exact hc
  · right
    unfold withF runF
    rw [z1, e]
    simp [firstNZ]
end
end Go.Proofs.Ytjbgkoeojfmkkaa
namespace Go.Proofs.Ytjbgkoeojfmkkaa

/-! ### The least Start -/
section
variable {full resume : Int} {L : List Int} {S : List (List Int)} {pk : Nat → Int → Int → List (Int × Int) → Int → Int} {av : Int → Int → Int}
theorem cam_start {s s' long t X : Int} {last : Bool} {w : WaT} (hb : w.begun = false → w.plays = false ∧ w.buf = X) (h : last = true ∨ (s ≤ X + long ↔ s' ≤ X + long)) : camT s resume long t last w = camT s' resume long t last w := by
  obtain ⟨a0, b0, p0, g0, s0, e0, l0⟩ := w
  simp only at hb
  unfold camT landT passT drainT
  cases p0 <;> cases g0 <;> cases last <;> grind
theorem cam_unbegun {s long t X : Int} {last : Bool} {w : WaT} (hb : w.begun = false → w.plays = false ∧ w.buf = X) : (camT s resume long t last w).begun = false → (camT s resume long t last w).plays = false ∧ (camT s resume long t last w).buf = X + long := by
  obtain ⟨a0, b0, p0, g0, s0, e0, l0⟩ := w
  simp only at hb
  unfold camT landT passT drainT
  cases p0 <;> cases g0 <;> cases last <;> grind
theorem start_same {s s' : Int} (hc : ∀ k, k + 1 < L.length → (s ≤ sumI L (k + 1) ↔ s' ≤ sumI L (k + 1))) : ∀ n, n ≤ L.length → folF full s resume L S pk av n = folF full s' resume L S pk av n ∧
    ((folF full s' resume L S pk av n).w.begun = false → (folF full s' resume L S pk av n).w.plays = false ∧ (folF full s' resume L S pk av n).w.buf = sumI L n)
  | 0, _ => ⟨rfl, fun _ => ⟨rfl, by simp [folF, FoT.zero, WaT.zero, sumI]⟩⟩
  | n + 1, hn => by
    obtain ⟨h1, h2⟩ := start_same hc n (by omega)
    have e1 : folF full s resume L S pk av (n + 1) = stepF full s resume L S pk av n (folF full s resume L S pk av n) := rfl
    have e2 : folF full s' resume L S pk av (n + 1) = stepF full s' resume L S pk av n (folF full s' resume L S pk av n) := rfl
    rw [e1, e2, h1]
    generalize folF full s' resume L S pk av n = f at *
    refine ⟨?_, ?_⟩
    · unfold stepF
      simp only [FoT.mk.injEq, and_true]
      refine cam_start h2 ?_
      by_cases hl : n + 1 = L.length
      · exact .inl (by simp [hl])
      · right
        have := hc n (by omega)
        rw [sumI_succ (by omega)] at this
        exact this
    · unfold stepF
      rw [sumI_succ (by omega)]
      exact cam_unbegun h2
end
section
variable {L : List Int} {B : Int → Bool}
/-- What Least finds. -/
theorem leaL_spec : ∀ (r : List Int) (k : Nat), L.drop k = r → (∀ i, i < L.length → 1 ≤ L.getD i 0) →
    ((leaL B r (1 + sumI L k)).2 = true → ∃ j, k ≤ j ∧ j < L.length ∧ (leaL B r (1 + sumI L k)).1 = 1 + sumI L j ∧ 1 + sumI L j ≤ 1000000000 ∧ B (1 + sumI L j) = true ∧ ∀ i, k ≤ i → i < j → B (1 + sumI L i) = false) ∧
    ((leaL B r (1 + sumI L k)).2 = false → ∀ j, k ≤ j → j < L.length → 1 + sumI L j ≤ 1000000000 → B (1 + sumI L j) = false)
  | [], k, hr, hL => by
    have hk : L.length ≤ k := by
      have := congrArg List.length hr
      simp at this
      omega
    exact ⟨fun h => by simp [leaL] at h, fun _ j h1 h2 => by omega⟩
  | x :: r, k, hr, hL => by
    have hk : k < L.length := by
      have := congrArg List.length hr
      simp at this
      omega
    have hr2 : L.drop (k + 1) = r ∧ L.getD k 0 = x := by
      rw [drop_consA L k 0 hk] at hr
      injection hr with h1 h2
      exact ⟨h2, h1⟩
    have hs : sumI L (k + 1) = sumI L k + x := by rw [sumI_succ hk, hr2.2]
    have hmono : ∀ j, k ≤ j → j < L.length → sumI L k ≤ sumI L j := fun j h1 h2 => sumI_mono (fun i hi => by have := hL i hi; omega) k j h1 (by omega)
    obtain ⟨i1, i2⟩ := leaL_spec r (k + 1) hr2.1 hL
    rw [hs, show 1 + (sumI L k + x) = 1 + sumI L k + x by omega] at i1 i2
    rw [leaL_cons]
    by_cases h1 : 1000000000 < 1 + sumI L k
    · rw [if_pos h1]
      exact ⟨fun h => (by cases h), fun _ j hj1 hj2 hj3 => by have := hmono j hj1 hj2; omega⟩
    · rw [if_neg h1]
      by_cases h2 : B (1 + sumI L k) = true
      · rw [if_pos h2]
        exact ⟨fun _ => ⟨k, Nat.le_refl _, hk, rfl, by omega, h2, fun i hi1 hi2 => by omega⟩, fun h => (by cases h)⟩
      · rw [if_neg h2]
        refine ⟨fun h => ?_, fun h j hj1 hj2 hj3 => ?_⟩
        · obtain ⟨j, a1, a2, a3, a4, a5, a6⟩ := i1 h
          refine ⟨j, by omega, a2, a3, a4, a5, fun i hi1 hi2 => ?_⟩
          by_cases e : i = k
          · subst e; simpa using h2
          · exact a6 i (by omega) hi2
        · by_cases e : j = k
          · subst e; simpa using h2
          · exact i2 h j (by omega) hj2 hj3
theorem sumI_lt (hL : ∀ i, i < L.length → 1 ≤ L.getD i 0) {i j : Nat} (h : i < j) (hj : j ≤ L.length) : sumI L i + 1 ≤ sumI L j := by
  have h1 := sumI_mono (fun i hi => by have := hL i hi; omega) (i + 1) j h hj
  rw [sumI_succ (by omega)] at h1
  have := hL i (by omega)
  omega
set_option linter.unusedVariables false in
theorem sumI_le_iff (hL : ∀ i, i < L.length → 1 ≤ L.getD i 0) {i j : Nat} (hi : i ≤ L.length) (hj : j ≤ L.length) : sumI L i ≤ sumI L j ↔ i ≤ j := by
  constructor
  · intro h
    apply Classical.byContradiction
    intro hc
    have := sumI_lt hL (show j < i by omega) hi
    omega
  · intro h
    exact sumI_mono (fun i hi => by have := hL i hi; omega) i j h hj
set_option linter.unusedVariables false in
/-- The class of a Start. -/
theorem start_class (hL : ∀ i, i < L.length → 1 ≤ L.getD i 0) {s : Int} (hs : 1 ≤ s) (h0 : 0 < L.length) : ∃ k, k < L.length ∧ 1 + sumI L k ≤ s ∧ ∀ j, j + 1 < L.length → (s ≤ sumI L (j + 1) ↔ 1 + sumI L k ≤ sumI L (j + 1)) := by
  have key : ∀ m, m < L.length → (∃ k, k < L.length ∧ 1 + sumI L k ≤ s ∧ (s ≤ sumI L (k + 1) ∨ k + 1 = L.length)) ∨ 1 + sumI L (m + 1) ≤ s := by
    intro m
    induction m with
    | zero =>
      intro hm
      by_cases h : s ≤ sumI L (0 + 1)
      · exact .inl ⟨0, hm, by simp [sumI]; omega, .inl h⟩
      · exact .inr (by omega)
    | succ m ih =>
      intro hm
      rcases ih (by omega) with h | h
      · exact .inl h
      · by_cases h2 : s ≤ sumI L (m + 1 + 1)
        · exact .inl ⟨m + 1, hm, h, .inl h2⟩
        · exact .inr (by omega)
  have : ∃ k, k < L.length ∧ 1 + sumI L k ≤ s ∧ (s ≤ sumI L (k + 1) ∨ k + 1 = L.length) := by
    rcases key (L.length - 1) (by omega) with h | h
    · exact h
    · refine ⟨L.length - 1, by omega, ?_, .inr (by omega)⟩
      have := sumI_mono (fun i hi => by have := hL i hi; omega) (L.length - 1) (L.length - 1 + 1) (by omega) (by omega)
      omega
  obtain ⟨k, hk, h1, h2⟩ := this
  refine ⟨k, hk, h1, fun j hj => ?_⟩
  constructor
  · intro h; omega
  · intro h
    have h3 : k < j + 1 := by
      apply Classical.byContradiction
      intro hc
      have := sumI_mono (fun i hi => by have := hL i hi; omega) (j + 1) k (by omega) (by omega)
      omega
    rcases h2 with h2 | h2
    · have := sumI_mono (fun i hi => by have := hL i hi; omega) (k + 1) (j + 1) (by omega) (by omega)
      omega
    · omega
end
section
variable {L : List Int} {S : List (List Int)} {C : List Int} {d r f gw gb : Int}
set_option linter.unusedVariables false in
theorem surB_class (hL : ∀ i, i < L.length → 1 ≤ L.getD i 0) {s s' : Int} (hc : ∀ k, k + 1 < L.length → (s ≤ sumI L (k + 1) ↔ s' ≤ sumI L (k + 1))) : surB L S C d s r f gw gb = surB L S C d s' r f gw gb := by
  unfold surB
  rw [(start_same hc L.length (Nat.le_refl _)).1]
/-- What Least answers is the least Start. -/
theorem least_spec (hL : ∀ i, i < L.length → 1 ≤ L.getD i 0) (h0 : 0 < L.length) :
    ((leaF L S C d r f gw gb 0).2 = true → (1 ≤ (leaF L S C d r f gw gb 0).1 ∧ (leaF L S C d r f gw gb 0).1 ≤ 1000000000) ∧ surB L S C d (leaF L S C d r f gw gb 0).1 r f gw gb = true ∧ ((leaF L S C d r f gw gb 0).1 ≠ 1 → surB L S C d ((leaF L S C d r f gw gb 0).1 - 1) r f gw gb = false)) ∧
    (∀ s, 1 ≤ s → s ≤ 1000000000 → surB L S C d s r f gw gb = true → (leaF L S C d r f gw gb 0).2 = true ∧ (leaF L S C d r f gw gb 0).1 ≤ s) := by
  have e0 : leaF L S C d r f gw gb 0 = leaL (fun s => surB L S C d s r f gw gb) L (1 + sumI L 0) := by
    unfold leaF
    rw [if_pos rfl]
    simp [sumI]
  rw [e0]
  obtain ⟨i1, i2⟩ := leaL_spec (L := L) (B := fun s => surB L S C d s r f gw gb) L 0 rfl hL
  have hn : ∀ j, j ≤ L.length → 0 ≤ sumI L j := fun j hj => by
    have := sumI_mono (fun i hi => by have := hL i hi; omega) 0 j (by omega) hj
    simpa [sumI] using this
  constructor
  · intro h
    obtain ⟨j, _, a2, a3, a4, a5, a6⟩ := i1 h
    rw [a3]
    refine ⟨⟨by have := hn j (by omega); omega, a4⟩, a5, fun hne => ?_⟩
    have hj : 0 < j := by
      rcases Nat.eq_zero_or_pos j with e | e
      · subst e; simp [sumI] at hne
      · exact e
    have hp : surB L S C d (1 + sumI L (j - 1)) r f gw gb = false := a6 (j - 1) (by omega) (by omega)
    rw [← hp]
    refine surB_class hL fun k hk => ?_
    rw [show 1 + sumI L j - 1 = sumI L j by omega, sumI_le_iff hL (by omega) (by omega)]
    constructor
    · intro h5
      have := sumI_lt hL (show j - 1 < k + 1 by omega) (by omega)
      omega
    · intro h5
      apply Classical.byContradiction
      intro hc
      have := sumI_mono (fun i hi => by have := hL i hi; omega) (k + 1) (j - 1) (by omega) (by omega)
      omega
  · intro s hs1 hs2 hB
    obtain ⟨k, hk, h1, h2⟩ := start_class hL hs1 h0
    have hk2 : surB L S C d (1 + sumI L k) r f gw gb = true := by rw [← surB_class hL h2]; exact hB
    cases ho : (leaL (fun s => surB L S C d s r f gw gb) L (1 + sumI L 0)).2 with
    | false =>
      have : surB L S C d (1 + sumI L k) r f gw gb = false := i2 ho k (by omega) hk (by omega)
      rw [hk2] at this
      cases this
    | true =>
      obtain ⟨j, _, a2, a3, a4, a5, a6⟩ := i1 ho
      refine ⟨rfl, ?_⟩
      rw [a3]
      by_cases e : k < j
      · have : surB L S C d (1 + sumI L k) r f gw gb = false := a6 k (by omega) e
        rw [hk2] at this
        cases this
      · have := sumI_mono (fun i hi => by have := hL i hi; omega) j k (by omega) (by omega)
        omega
end

/-! ### A trace that keeps a promise -/
/-- What comes in one millisecond. -/
def rateL (T : List (Int × Int)) (t : Int) : Int := camel T t (t + 1)
theorem rate_same : ∀ (T : List (Int × Int)) (t : Int), okT T → t + 1 < farI → (∀ x ∈ T, x.1 ≠ t + 1) → rateL T t = rateL T (t + 1)
  | [], _, _, _, _ => rfl
  | x :: r, t, ⟨_, _, _, hlt, hok⟩, hf, hne => by
    have ih := rate_same r t hok hf (fun y hy => hne y (List.mem_cons_of_mem _ hy))
    have h1 := hne x (List.mem_cons_self ..)
    have h2 : hdT r ≠ t + 1 := by
      cases r with
      | nil => simp only [hdT]; omega
      | cons y s => exact hne y (by simp)
    unfold rateL at *
    rw [camel_cons, camel_cons, ih]
    congr 2
    simp only [farI] at hf
    omega
/-- What comes in a window. -/
def winL (T : List (Int × Int)) (gw t : Int) : Int := camel T t (t + gw)
theorem win_step {T : List (Int × Int)} (h : okT T) {gw t : Int} (hg : 1 ≤ gw) : winL T gw (t + 1) + rateL T t = winL T gw t + rateL T (t + gw) := by
  unfold winL rateL
  have e1 := camel_add T t (t + 1) (t + 1 + gw) h (by omega) (by omega)
  have e2 := camel_add T t (t + gw) (t + gw + 1) h (by omega) (by omega)
  rw [show t + 1 + gw = t + gw + 1 by omega] at *
  omega
/-- A time at which a window is looked at. -/
def kpC (T : List (Int × Int)) (gw u t : Int) : Prop := t = 0 ∨ t = u - gw ∨ (∃ x ∈ T, x.1 = t) ∨ ∃ x ∈ T, x.1 = t + gw
theorem kp_right {T : List (Int × Int)} (h : okT T) {gw u : Int} (hg : 1 ≤ gw) (hu : u ≤ 1000000000000) : ∀ (m : Nat) (t : Int), 0 ≤ t → t + m + gw = u → rateL T (t + gw) ≤ rateL T t → ∃ c, 0 ≤ c ∧ c + gw ≤ u ∧ kpC T gw u c ∧ winL T gw c ≤ winL T gw t
  | 0, t, h0, hm, _ => ⟨t, h0, by omega, .inr (.inl (by omega)), Int.le_refl _⟩
  | m + 1, t, h0, hm, hs => by
    have hw := win_step (T := T) h (t := t) hg
    by_cases hc : kpC T gw u (t + 1)
    · exact ⟨t + 1, by omega, by omega, hc, by omega⟩
    · have e1 := rate_same T t h (by simp only [farI]; omega) (fun x hx e => hc (.inr (.inr (.inl ⟨x, hx, e⟩))))
      have e2 := rate_same T (t + gw) h (by simp only [farI]; omega) (fun x hx e => hc (.inr (.inr (.inr ⟨x, hx, by omega⟩))))
      rw [show t + gw + 1 = t + 1 + gw by omega] at e2
      obtain ⟨c, c1, c2, c3, c4⟩ := kp_right h hg hu m (t + 1) (by omega) (by omega) (by omega)
      exact ⟨c, c1, c2, c3, by omega⟩
theorem kp_left {T : List (Int × Int)} (h : okT T) {gw u : Int} (hg : 1 ≤ gw) (hu : u ≤ 1000000000000) : ∀ (m : Nat) (t : Int), t = m → t + gw ≤ u → rateL T t ≤ rateL T (t + gw) → ∃ c, 0 ≤ c ∧ c + gw ≤ u ∧ kpC T gw u c ∧ winL T gw c ≤ winL T gw t
  | 0, t, h0, hm, _ => ⟨t, by omega, by omega, .inl (by omega), Int.le_refl _⟩
  | m + 1, t, h0, hm, hs => by
    by_cases hc : kpC T gw u t
    · exact ⟨t, by omega, by omega, hc, Int.le_refl _⟩
    · have e1 := rate_same T (t - 1) h (by simp only [farI]; omega) (fun x hx e => hc (.inr (.inr (.inl ⟨x, hx, by omega⟩))))
      have e2 := rate_same T (t - 1 + gw) h (by simp only [farI]; omega) (fun x hx e => hc (.inr (.inr (.inr ⟨x, hx, by omega⟩))))
      rw [show t - 1 + gw + 1 = t + gw by omega] at e2
      rw [show t - 1 + 1 = t by omega] at e1
      have hw := win_step (T := T) h (t := t - 1) hg
      rw [show t - 1 + 1 = t by omega] at hw
      obtain ⟨c, c1, c2, c3, c4⟩ := kp_left h hg hu m (t - 1) (by omega) (by omega) (by omega)
      exact ⟨c, c1, c2, c3, by omega⟩
/-- A promise that is kept is kept in each window. -/
theorem keeps_all {T : List (Int × Int)} {gw gb u : Int} (hF : kepF T gw gb u = 0) (hB : kepB T gw gb u = true) {t : Int} (h0 : 0 ≤ t) (h1 : t + gw ≤ u) : gb ≤ camel T t (t + gw) := by
  have hz : trcF T = 0 ∧ prmF gw gb = 0 ∧ 0 ≤ u ∧ u ≤ 1000000000000 := by
    unfold kepF at hF
    by_cases c1 : trcF T = 0
    · rw [if_neg (by omega)] at hF
      by_cases c2 : prmF gw gb = 0
      · rw [if_neg (by omega)] at hF
        by_cases c3 : u < 0 ∨ 1000000000000 < u
        · rw [if_pos c3] at hF; omega
        · exact ⟨c1, c2, by omega, by omega⟩
      · rw [if_pos c2] at hF; exact absurd hF c2
    · rw [if_pos c1] at hF; exact absurd hF c1
  obtain ⟨z1, z2, z3, z4⟩ := hz
  have hg := (prmF_ok z2).1
  have hok : okT T := by simpa using okT_all z1 0 (by omega)
  unfold kepB at hB
  rw [if_pos hF] at hB
  have hany : (kpL T gw u).any (kpN T gw gb u) = false := by simpa using hB
  have hc : ∃ c, 0 ≤ c ∧ c + gw ≤ u ∧ kpC T gw u c ∧ winL T gw c ≤ winL T gw t := by
    by_cases hs : rateL T (t + gw) ≤ rateL T t
    · exact kp_right hok hg.1 z4 (u - gw - t).toNat t h0 (by omega) hs
    · exact kp_left hok hg.1 z4 t.toNat t (by omega) h1 (by omega)
  obtain ⟨c, c1, c2, c3, c4⟩ := hc
  have hmem : c ∈ kpL T gw u := by
    unfold kpL
    rcases c3 with e | e | ⟨x, hx, e⟩ | ⟨x, hx, e⟩
    · simp [e]
    · simp [e]
    · exact List.mem_append_right _ (List.mem_flatMap.2 ⟨x, hx, by simp [e]⟩)
    · exact List.mem_append_right _ (List.mem_flatMap.2 ⟨x, hx, by simp; right; omega⟩)
  rw [List.any_eq_false] at hany
  have h2 := hany c hmem
  unfold kpN at h2
  simp only [decide_eq_true_eq] at h2
  unfold winL at c4
  omega
/-- Whole windows of a trace that keeps its promise. -/
theorem keeps_many {T : List (Int × Int)} {gw gb u : Int} (hok : okT T) (hg : 1 ≤ gw) (hw : ∀ t, 0 ≤ t → t + gw ≤ u → gb ≤ camel T t (t + gw)) {f : Int} (hf : 0 ≤ f) : ∀ k : Nat, f + gw * k ≤ u → gb * k ≤ camel T f (f + gw * k)
  | 0, _ => by
    have := camel_nonneg T f (f + gw * (0 : Nat)) hok
    simpa using this
  | k + 1, h => by
    have e : gw * ((k + 1 : Nat) : Int) = gw * (k : Int) + gw := by push_cast; rw [Int.mul_add]; omega
    have e2 : gb * ((k + 1 : Nat) : Int) = gb * (k : Int) + gb := by push_cast; rw [Int.mul_add]; omega
    rw [e] at h ⊢
    rw [e2]
    have hk : 0 ≤ gw * (k : Int) := Int.mul_nonneg (by omega) (by omega)
    have ih := keeps_many hok hg hw hf k (by omega)
    have h1 := hw (f + gw * k) (by omega) (by omega)
    have h2 := camel_add T f (f + gw * k) (f + gw * k + gw) hok (by omega) (by omega)
    rw [show f + (gw * (k : Int) + gw) = f + gw * k + gw by omega]
    omega
/-- A segment comes no later than promised. -/
theorem keeps_ends {T : List (Int × Int)} {gw gb u : Int} (hz : trcF T = 0) (hg : 1 ≤ gw) (hgb : 1 ≤ gb) (hw : ∀ t, 0 ≤ t → t + gw ≤ u → gb ≤ camel T t (t + gw)) {f z : Int} (hf : 0 ≤ f) (hf2 : f ≤ 2000000000000) (hz1 : 1 ≤ z) (hz2 : z ≤ 1000000000) (he : endsP T f z ≤ u) :
    endsP T f z ≤ f + gw * ((z + gb - 1) / gb) := by
  have hok : okT T := by simpa using okT_all hz 0 (by omega)
  have hx0 : ∃ x l, T = x :: l ∧ x.1 = 0 := by
    obtain ⟨h1, _, h3, _⟩ := trcF_zero hz
    cases T with
    | nil => simp at h1
    | cons x l =>
      refine ⟨x, l, rfl, ?_⟩
      have := trEl_zero (h3 0 h1)
      simpa using this.2.2.1 rfl
  obtain ⟨x, l, rfl, hx⟩ := hx0
  have hm : max f x.1 = f := by omega
  obtain ⟨h1, h2, h3⟩ := ends_first l x f z hok (by omega) hz2 hf hf2
  rw [hm] at h1 h2 h3
  apply Classical.byContradiction
  intro hc
  have hq0 : 0 ≤ (z + gb - 1) / gb := Int.ediv_nonneg (by omega) (by omega)
  obtain ⟨k, hk⟩ : ∃ k : Nat, (z + gb - 1) / gb = (k : Int) := ⟨((z + gb - 1) / gb).toNat, by omega⟩
  have hzk : z ≤ gb * k := by
    rw [← hk]
    have := (need_le (b := z) (r := gb) (d := (z + gb - 1) / gb) (by omega)).1 (Int.le_refl _)
    exact this
  rw [hk] at hc
  have hkw : 0 ≤ gw * (k : Int) := Int.mul_nonneg (by omega) (by omega)
  have h5 := keeps_many hok hg hw hf k (by omega)
  have h6 := camel_add (x :: l) f (f + gw * k) (endsP (x :: l) f z - 1) hok (by omega) (by omega)
  have h7 := camel_nonneg (x :: l) (f + gw * k) (endsP (x :: l) f z - 1) hok
  omega

/-! ### It does not stall -/
/-- It has stalled, or it does. -/
def badW (s : WaT) : Prop := s.plays = false ∧ s.begun = true ∨ s.stalls ≠ []
theorem cam_play {start resume long t : Int} {last : Bool} {s : WaT} (hp : s.plays = true) (h : t ≤ s.at_ + s.buf) : camT start resume long t last s = { s with at_ := t, buf := s.buf - (t - s.at_) + long } := by
  unfold camT passT
  rw [if_neg (by omega)]
  unfold landT drainT
  rw [if_pos hp, if_pos hp]
theorem cam_wait {start resume long t : Int} {last : Bool} {s : WaT} (hp : s.plays = false) (hb : s.begun = false) : camT start resume long t last s = if start ≤ s.buf + long ∨ last = true then { s with at_ := t, buf := s.buf + long, plays := true, begun := true, beg := t } else { s with at_ := t, buf := s.buf + long } := by
  unfold camT passT
  rw [if_neg (by simp [hp])]
  unfold landT drainT
  simp [hp, hb]
theorem land_bad {start resume long t : Int} {last : Bool} {s : WaT} (hp : s.plays = false) (hb : s.begun = true) : badW (landT start resume long t last s) ∧ (last = true → (landT start resume long t last s).stalls ≠ []) := by
  unfold landT
  rw [if_neg (by simp [hp]), if_neg (by simp [hb])]
  by_cases c : s.begun = true ∧ (resume ≤ drainT t s + long ∨ last = true)
  · rw [if_pos c]
    exact ⟨.inr (by simp), fun _ => (by simp)⟩
  · rw [if_neg c]
    exact ⟨.inl ⟨hp, hb⟩, fun h => absurd ⟨hb, .inr h⟩ c⟩
theorem land_more {start resume long t : Int} {last : Bool} {s : WaT} (h : s.stalls ≠ []) : (landT start resume long t last s).stalls ≠ [] := by
  unfold landT
  split
  · exact h
  · split
    · exact h
    · split
      · simp
      · exact h
theorem bad_step {start resume long t : Int} {last : Bool} {s : WaT} (h : badW s) : badW (camT start resume long t last s) ∧ (last = true → (camT start resume long t last s).stalls ≠ []) := by
  unfold camT
  rcases h with ⟨hp, hb⟩ | h
  · have e : passT t s = s := by unfold passT; rw [if_neg (by simp [hp])]
    rw [e]
    exact land_bad hp hb
  · have e : (passT t s).stalls ≠ [] := by unfold passT; split <;> exact h
    exact ⟨.inr (land_more e), fun _ => land_more e⟩
theorem cam_stall {start resume long t : Int} {last : Bool} {s : WaT} (hp : s.plays = true) (hb : s.begun = true) (h : s.at_ + s.buf < t) : badW (camT start resume long t last s) := by
  unfold camT
  have e : passT t s = { s with plays := false, stalled := s.at_ + s.buf } := by unfold passT; rw [if_pos ⟨hp, h⟩]
  rw [e]
  exact (land_bad (s := { s with plays := false, stalled := s.at_ + s.buf }) rfl hb).1
theorem last_plays {start resume long t : Int} {last : Bool} {s : WaT} (h : last = true) : (camT start resume long t last s).plays = true := by
  unfold camT landT
  generalize passT t s = q
  subst h
  by_cases c1 : q.plays = true
  · rw [if_pos c1]; exact c1
  · rw [if_neg c1]
    cases c2 : q.begun <;> simp
/-- Two runs side by side: neither stalls, and the first one has at least as much in the buffer. -/
def pairW (a b : WaT) : Prop := a.plays = b.plays ∧ a.begun = b.begun ∧ a.stalls = [] ∧ (a.plays = false → a.begun = false ∧ a.buf = b.buf) ∧ (a.plays = true → a.begun = true ∧ b.buf ≤ a.buf ∧ 0 ≤ b.buf)
theorem pair_step {full start resume long t1 t2 : Int} {last : Bool} {a b : WaT} (h : pairW a b) (ha : okW a) (hl : 0 ≤ long) (h2 : askT full long b ≤ t2) (ht : t1 - askT full long a ≤ t2 - askT full long b) (hg : ¬ badW (camT start resume long t2 last b)) :
    pairW (camT start resume long t1 last a) (camT start resume long t2 last b) := by
  obtain ⟨h1, h3, h4, h5, h6⟩ := h
  cases hp : a.plays with
  | false =>
    obtain ⟨k1, k2⟩ := h5 hp
    have hpb : b.plays = false := by rw [← h1]; exact hp
    have hbb : b.begun = false := by rw [← h3]; exact k1
    rw [cam_wait hp k1, cam_wait hpb hbb, k2]
    have h0 := ha.1
    split
    · exact ⟨rfl, rfl, h4, fun h => (by cases h), fun _ => ⟨rfl, Int.le_refl _, by simp only; omega⟩⟩
    · exact ⟨h1, h3, h4, fun _ => ⟨k1, rfl⟩, fun h => absurd (hp.symm.trans h) (by simp)⟩
  | true =>
    obtain ⟨k1, k2, k3⟩ := h6 hp
    have hpb : b.plays = true := by rw [← h1]; exact hp
    have hbb : b.begun = true := by rw [← h3]; exact k1
    have hns : t2 ≤ b.at_ + b.buf := Classical.byContradiction fun c => hg (cam_stall hpb hbb (by omega))
    unfold askT at ht h2
    rw [if_pos hp, if_pos hpb] at ht
    rw [if_pos hpb] at h2
    rw [cam_play hpb hns, cam_play hp (by omega)]
    refine ⟨h1, h3, h4, fun h => absurd (hp.symm.trans h) (by simp), fun _ => ⟨k1, ?_, ?_⟩⟩
    · show b.buf - (t2 - b.at_) + long ≤ a.buf - (t1 - a.at_) + long
      omega
    · show 0 ≤ b.buf - (t2 - b.at_) + long
      omega
section
variable {full start resume : Int} {L : List Int} {S : List (List Int)} {pk : Nat → Int → Int → List (Int × Int) → Int → Int} {av av2 : Int → Int → Int}
theorem bad_end : ∀ (m n : Nat), n + m = L.length → 0 < m → badW (folF full start resume L S pk av n).w → (folF full start resume L S pk av L.length).w.stalls ≠ []
  | 0, _, _, h, _ => absurd h (by omega)
  | m + 1, n, hn, _, hb => by
    have e : (folF full start resume L S pk av (n + 1)).w = camT start resume (L.getD n 0) (tN full start resume L S pk av n) (decide (n + 1 = L.length)) (folF full start resume L S pk av n).w := rfl
    obtain ⟨h1, h2⟩ := bad_step (start := start) (resume := resume) (long := L.getD n 0) (t := tN full start resume L S pk av n) (last := decide (n + 1 = L.length)) hb
    rw [← e] at h1 h2
    rcases Nat.eq_zero_or_pos m with rfl | hm
    · have hl : n + 1 = L.length := by omega
      rw [← hl]
      exact h2 (by simp [hl])
    · exact bad_end m (n + 1) (by omega) hm h1
/-- Who is sure does not stall, if each segment takes at most as long. -/
theorem sure_run {M D M2 D2 : Int} {C : List Int} (hR : RunOk full start resume L S (gvF C) av M D) (hR2 : RunOk full start resume L S (gvF C) av2 M2 D2)
    (hd : ∀ n, n < L.length → tN full start resume L S (gvF C) av n - asN full start resume L S (gvF C) av n ≤ av2 (asN full start resume L S (gvF C) av2 n) (zN full start resume L S (gvF C) av n) - asN full start resume L S (gvF C) av2 n)
    (hs : (folF full start resume L S (gvF C) av2 L.length).w.stalls = []) : ∀ n, n ≤ L.length → pairW (folF full start resume L S (gvF C) av n).w (folF full start resume L S (gvF C) av2 n).w
  | 0, _ => ⟨rfl, rfl, rfl, fun _ => ⟨rfl, rfl⟩, fun h => (by cases h)⟩
  | n + 1, hn => by
    have ih := sure_run hR hR2 hd hs n (by omega)
    obtain ⟨a1, a2, a3, _⟩ := hR.all n (by omega)
    obtain ⟨b1, b2, b3, _⟩ := hR2.all n (by omega)
    have hf := hR.few
    obtain ⟨_, c1, _⟩ := hR.comes n (by omega) a1 a2 (by omega)
    obtain ⟨_, c2, _⟩ := hR2.comes n (by omega) b1 b2 (by omega)
    have e1 : (folF full start resume L S (gvF C) av (n + 1)).w = camT start resume (L.getD n 0) (tN full start resume L S (gvF C) av n) (decide (n + 1 = L.length)) (folF full start resume L S (gvF C) av n).w := rfl
    have e2 : (folF full start resume L S (gvF C) av2 (n + 1)).w = camT start resume (L.getD n 0) (tN full start resume L S (gvF C) av2 n) (decide (n + 1 = L.length)) (folF full start resume L S (gvF C) av2 n).w := rfl
    rw [e1, e2]
    refine pair_step (full := full) ih a1 (hR.longs n (by omega)).1 c2 (hd n (by omega)) ?_
    rw [← e2]
    intro hb
    rcases Nat.lt_or_ge (n + 1) L.length with h | h
    · exact bad_end (L.length - (n + 1)) (n + 1) (by omega) (by omega) hb hs
    · have hl : n + 1 = L.length := by omega
      rw [hl] at hb
      rcases hb with ⟨h1, h2⟩ | h1
      · have hbn : ¬ badW (folF full start resume L S (gvF C) av2 n).w := fun hc => bad_end (L.length - n) n (by omega) (by omega) hc hs
        have h3 : (folF full start resume L S (gvF C) av2 (n + 1)).w.plays = true := by
          rw [e2]
          exact last_plays (by simp [hl])
        rw [hl, h1] at h3
        cases h3
      · exact h1 hs
end
section
variable {L : List Int} {S : List (List Int)} {Q : List Int} {T : List (Int × Int)} {C : List Int} {d0 s0 r0 f0 gw gb : Int}
theorem end_ge {full start resume : Int} {pk : Nat → Int → Int → List (Int × Int) → Int → Int} {av : Int → Int → Int} {M D : Int} (hR : RunOk full start resume L S pk av M D) : ∀ m n, n + m = L.length → (folF full start resume L S pk av n).w.at_ ≤ (folF full start resume L S pk av L.length).w.at_
  | 0, n, h => by obtain rfl : n = L.length := by omega
                  exact Int.le_refl _
  | m + 1, n, h => by
    have ih := end_ge hR m (n + 1) (by omega)
    obtain ⟨a1, a2, a3, _⟩ := hR.all n (by omega)
    have hf := hR.few
    obtain ⟨_, c1, _⟩ := hR.comes n (by omega) a1 a2 (by omega)
    have hb := ask_bd (full := full) (long := L.getD n 0) a1
    have e0 : asN full start resume L S pk av n = askT full (L.getD n 0) (folF full start resume L S pk av n).w := rfl
    have e : (folF full start resume L S pk av (n + 1)).w.at_ = tN full start resume L S pk av n := camT_at
    omega
/-- Who is sure by a promise does not stall on a trace that keeps it as long as it is played. -/
theorem never_stalls (hF : filmF L S Q = 0) (hT : trcF T = 0) (hd : 0 ≤ d0 ∧ d0 ≤ 100000) (hC : chsF L.length S.length C = 0) (hgw : 1 ≤ gw ∧ gw ≤ 1000000) (hgb : 1 ≤ gb ∧ gb ≤ 1000000000)
    (hs : surB L S C d0 s0 r0 f0 gw gb = true) (hk : kepF T gw gb ((folF f0 s0 r0 L S (gvF C) (trF T d0) L.length).w.at_ + (folF f0 s0 r0 L S (gvF C) (trF T d0) L.length).w.buf) = 0)
    (hB : kepB T gw gb ((folF f0 s0 r0 L S (gvF C) (trF T d0) L.length).w.at_ + (folF f0 s0 r0 L S (gvF C) (trF T d0) L.length).w.buf) = true) :
    (folF f0 s0 r0 L S (gvF C) (trF T d0) L.length).w.stalls = [] := by
  have hR := run_trace (d0 := d0) (s0 := s0) (r0 := r0) (f0 := f0) hF hT hd hC
  have hR2 := run_prm (d0 := d0) (s0 := s0) (r0 := r0) (f0 := f0) (i0 := 0) (k0 := 0) (l0 := 0) (t0 := 0) (lo0 := 0) (hi0 := 0) (a0 := 0) (x0 := 0) (y0 := 0) (z0 := 0) hF hd hgw hgb hC
  have hw : ∀ t, 0 ≤ t → t + gw ≤ _ → gb ≤ camel T t (t + gw) := fun t h0 h1 => keeps_all hk hB h0 h1
  unfold surB at hs
  have hs0 : (folF f0 s0 r0 L S (gvF C) (prT gw gb d0) L.length).w.stalls = [] := by simpa using hs
  have ok := filmF_ok hF
  refine (sure_run hR hR2 (fun n hn => ?_) hs0 L.length (Nat.le_refl _)).2.2.1
  obtain ⟨a1, a2, a3, a4⟩ := hR.all n (by omega)
  have hf := hR.few
  have hl := (hR.all L.length (Nat.le_refl _)).1.1
  obtain ⟨c0, c1, c2⟩ := hR.comes n (by omega) a1 a2 (by omega)
  have hb := ask_bd (full := f0) (long := L.getD n 0) a1
  have e0 : asN f0 s0 r0 L S (gvF C) (trF T d0) n = askT f0 (L.getD n 0) (folF f0 s0 r0 L S (gvF C) (trF T d0) n).w := rfl
  have he := end_ge hR (L.length - (n + 1)) (n + 1) (by omega)
  have e : (folF f0 s0 r0 L S (gvF C) (trF T d0) (n + 1)).w.at_ = tN f0 s0 r0 L S (gvF C) (trF T d0) n := camT_at
  have et : tN f0 s0 r0 L S (gvF C) (trF T d0) n = endsP T (asN f0 s0 r0 L S (gvF C) (trF T d0) n + d0) (zN f0 s0 r0 L S (gvF C) (trF T d0) n) := rfl
  have hz : 1 ≤ zN f0 s0 r0 L S (gvF C) (trF T d0) n ∧ zN f0 s0 r0 L S (gvF C) (trF T d0) n ≤ 1000000000 := ok.sr (rN f0 s0 r0 L S (gvF C) (trF T d0) n).toNat (by omega) n hn
  have hmx : (folF f0 s0 r0 L S (gvF C) (trF T d0) L.length).w.at_ + (folF f0 s0 r0 L S (gvF C) (trF T d0) L.length).w.buf ≤ 1000000000000 := by
    unfold kepF at hk
    rw [if_neg (by omega)] at hk
    split at hk
    · omega
    · split at hk <;> omega
  have := keeps_ends hT hgw.1 hgb.1 hw (f := asN f0 s0 r0 L S (gvF C) (trF T d0) n + d0) (z := zN f0 s0 r0 L S (gvF C) (trF T d0) n) (by omega) (by omega) hz.1 hz.2 (by omega)
  show tN f0 s0 r0 L S (gvF C) (trF T d0) n - _ ≤ _ + d0 + gw * _ - _
  omega
end
end Go.Proofs.Ytjbgkoeojfmkkaa
namespace Go.Proofs.Ytjbgkoeojfmkkaa
open Go.ChangeShapes Go.WideShapes Go.ChangeAt Go.RowKit Go.Joins Go.Deep
theorem surF_start {L : List Int} {S : List (List Int)} {Q : List Int} {C : List Int} {d0 s0 r0 f0 i0 k0 l0 t0 lo0 hi0 a0 x0 y0 z0 gw gb : Int} (h : surF L S Q C d0 s0 r0 f0 i0 k0 l0 t0 lo0 hi0 a0 x0 y0 z0 gw gb = 0) {s : Int} (h1 : 1 ≤ s) (h2 : s ≤ 1000000000) : surF L S Q C d0 s r0 f0 i0 k0 l0 t0 lo0 hi0 a0 x0 y0 z0 gw gb = 0 := by
  obtain ⟨z1, z2, z3, z4, z5, z6⟩ := surF_zero h
  have hp : plrF d0 s r0 f0 i0 k0 l0 t0 lo0 hi0 a0 x0 y0 z0 = 0 := by
    have h6 := z6
    unfold plrF at h6 ⊢
    by_cases c1 : d0 < 0 ∨ 100000 < d0 ∨ s0 < 1 ∨ 1000000000 < s0 ∨ r0 < 1 ∨ 1000000000 < r0 ∨ f0 < 1 ∨ 1000000000 < f0 ∨ i0 < 0 ∨ 19 < i0
    · rw [if_pos c1] at h6; omega
    · rw [if_neg c1] at h6
      rw [if_neg (by omega)]
      exact h6
  have hst : fstF S.length d0 s0 r0 f0 i0 k0 l0 t0 lo0 hi0 a0 x0 y0 z0 = 0 := by
    unfold surF at h
    rw [if_neg (by omega)] at h
    by_cases c : fstF S.length d0 s0 r0 f0 i0 k0 l0 t0 lo0 hi0 a0 x0 y0 z0 = 0
    · exact c
    · rw [if_pos c] at h; exact absurd h c
  have h3 := (fstF_zero hst).2
  have hst2 : fstF S.length d0 s r0 f0 i0 k0 l0 t0 lo0 hi0 a0 x0 y0 z0 = 0 := by
    unfold fstF
    rw [if_neg (by omega), if_neg (by omega)]
  unfold surF at h ⊢
  rw [if_neg (by omega), if_neg (by omega)] at h
  rw [if_neg (by omega), if_neg (by omega)]
  exact h
theorem runF_zero3 {L : List Int} {S : List (List Int)} {Q : List Int} {T : List (Int × Int)} {d0 s0 r0 f0 i0 k0 l0 t0 lo0 hi0 a0 x0 y0 z0 : Int} (h : runF L S Q T d0 s0 r0 f0 i0 k0 l0 t0 lo0 hi0 a0 x0 y0 z0 = 0) : trcF T = 0 := by
  unfold runF at h
  have h1 : firstNZ [filmF L S Q, trcF T] = 0 := Classical.byContradiction fun c => by rw [if_pos c] at h; exact c h
  unfold firstNZ at h1
  have h2 : filmF L S Q = 0 := Classical.byContradiction fun c => by rw [if_pos c] at h1; exact c h1
  rw [if_neg (by omega)] at h1
  unfold firstNZ at h1
  exact Classical.byContradiction fun c => by rw [if_pos c] at h1; exact c h1
section
variable {lA : Option Addr} {ln lc : Nat} {sA : Option Addr} {sn sc : Nat} {qA : Option Addr} {qn qc : Nat} {w : World} {L : List Int} {S : List (List Int)} {Q : List Int} {C : List Int}
set_option linter.unusedVariables false in
set_option maxRecDepth 100000 in
set_option maxHeartbeats 8000000 in
theorem isLeast_any {d0 s0 r0 f0 i0 k0 l0 t0 lo0 hi0 a0 x0 y0 z0 gw gb m : Int} {cA : Option Addr} {cn cc : Nat} (h : Shw w lA ln lc sA sn sc qA qn qc L S Q) (hC : At w 1 e64 cA cn cc C) (hZ : surF L S Q C d0 s0 r0 f0 i0 k0 l0 t0 lo0 hi0 a0 x0 y0 z0 gw gb = 0) (hm1 : 1 ≤ m) (hm2 : m ≤ 1000000000)
    (hB : surB L S C d0 m r0 f0 gw gb = true) (hB2 : m ≠ 1 → surB L S C d0 (m - 1) r0 f0 gw gb = false) :
    Calls Try.prog 25 #[shV lA ln lc sA sn sc qA qn qc, plV d0 s0 r0 f0 i0 k0 l0 t0 lo0 hi0 a0 x0 y0 z0, .agg #[.int .i64 gw, .int .i64 gb], .slice cA cn cc, .int .i64 m] w fun e w' => e = .returned (.bool true) ∧ Ext w w' := by
  have HS1 : Hid (∀ W, Ext w W → Calls Try.prog 17 #[shV lA ln lc sA sn sc qA qn qc, plV d0 m r0 f0 i0 k0 l0 t0 lo0 hi0 a0 x0 y0 z0, .agg #[.int .i64 gw, .int .i64 gb], .slice cA cn cc] W fun e w' => e = .returned (.tuple #[.bool true, .int .i64 0]) ∧ Ext W w') := hide (fun W hW => by
    have := refSure_any (d0 := d0) (s0 := m) (r0 := r0) (f0 := f0) (i0 := i0) (k0 := k0) (l0 := l0) (t0 := t0) (lo0 := lo0) (hi0 := hi0) (a0 := a0) (x0 := x0) (y0 := y0) (z0 := z0) (gw := gw) (gb := gb) (h.ext hW) (hC.ext hW)
    rw [surF_start hZ hm1 hm2, if_pos rfl, hB] at this
    exact this)
  have HS2 : Hid (m ≠ 1 → ∀ W, Ext w W → Calls Try.prog 17 #[shV lA ln lc sA sn sc qA qn qc, plV d0 (m - 1) r0 f0 i0 k0 l0 t0 lo0 hi0 a0 x0 y0 z0, .agg #[.int .i64 gw, .int .i64 gb], .slice cA cn cc] W fun e w' => e = .returned (.tuple #[.bool false, .int .i64 0]) ∧ Ext W w') := hide (fun hne W hW => by
    have := refSure_any (d0 := d0) (s0 := (m - 1)) (r0 := r0) (f0 := f0) (i0 := i0) (k0 := k0) (l0 := l0) (t0 := t0) (lo0 := lo0) (hi0 := hi0) (a0 := a0) (x0 := x0) (y0 := y0) (z0 := z0) (gw := gw) (gb := gb) (h.ext hW) (hC.ext hW)
    rw [surF_start hZ (show 1 ≤ m - 1 by omega) (by omega), if_pos rfl, hB2 hne] at this
    exact this)
  clear h hC hZ hB hB2
  have HX : Hid (Ext w (((w.alloc (.cells #[.slice lA ln lc, .slice sA sn sc, .slice qA qn qc] 25)).alloc (.cells #[.int .i64 d0, .int .i64 s0, .int .i64 r0, .int .i64 f0, .int .i64 i0, .int .i64 k0, .int .i64 l0, .int .i64 t0, .int .i64 lo0, .int .i64 hi0, .int .i64 a0, .int .i64 x0, .int .i64 y0, .int .i64 z0] 30)).alloc (.cells #[.int .i64 gw, .int .i64 gb] 44))) := hide (ext_alloc (ext_alloc (Ext.alloc _ _) _) _)
  have hb0 := ((Blk.new w 25 #[.slice lA ln lc, .slice sA sn sc, .slice qA qn qc]).alloc (.cells #[.int .i64 d0, .int .i64 s0, .int .i64 r0, .int .i64 f0, .int .i64 i0, .int .i64 k0, .int .i64 l0, .int .i64 t0, .int .i64 lo0, .int .i64 hi0, .int .i64 a0, .int .i64 x0, .int .i64 y0, .int .i64 z0] 30)).alloc (.cells #[.int .i64 gw, .int .i64 gb] 44)
  have hb1 := (Blk.new (w.alloc (.cells #[.slice lA ln lc, .slice sA sn sc, .slice qA qn qc] 25)) 30 #[.int .i64 d0, .int .i64 s0, .int .i64 r0, .int .i64 f0, .int .i64 i0, .int .i64 k0, .int .i64 l0, .int .i64 t0, .int .i64 lo0, .int .i64 hi0, .int .i64 a0, .int .i64 x0, .int .i64 y0, .int .i64 z0]).alloc (.cells #[.int .i64 gw, .int .i64 gb] 44)
  have hb2 := Blk.new ((w.alloc (.cells #[.slice lA ln lc, .slice sA sn sc, .slice qA qn qc] 25)).alloc (.cells #[.int .i64 d0, .int .i64 s0, .int .i64 r0, .int .i64 f0, .int .i64 i0, .int .i64 k0, .int .i64 l0, .int .i64 t0, .int .i64 lo0, .int .i64 hi0, .int .i64 a0, .int .i64 x0, .int .i64 y0, .int .i64 z0] 30)) 44 #[.int .i64 gw, .int .i64 gb]
  simp only [World.size_alloc] at hb1 hb2
  have B0 := hide hb0
  have B1 := hide hb1
  have B2 := hide hb2
  clear hb0 hb1 hb2
  go_enter Try.func25, Try.ntmps25
  have fz := B1.out.frozen 1
  go_upto_region 2 with (fail)
  refine gen_wpC fun W0 h0 => ?_
  have X0 := hide (show Ext w W0 from by rw [h0]; exact ext_alloc (ext_alloc (Ext.alloc _ _) _) _)
  have C0 := hide (show Blk W0 w.heap.size 25 #[.slice lA ln lc, .slice sA sn sc, .slice qA qn qc] from by rw [h0]; exact ((Blk.new w 25 #[.slice lA ln lc, .slice sA sn sc, .slice qA qn qc]).alloc _).alloc _)
  have C1 := hide (show Blk W0 (w.heap.size + 1) 30 #[.int .i64 d0, .int .i64 m, .int .i64 r0, .int .i64 f0, .int .i64 i0, .int .i64 k0, .int .i64 l0, .int .i64 t0, .int .i64 lo0, .int .i64 hi0, .int .i64 a0, .int .i64 x0, .int .i64 y0, .int .i64 z0] from by rw [h0]; have hb1 := (Blk.new (w.alloc (.cells #[.slice lA ln lc, .slice sA sn sc, .slice qA qn qc] 25)) 30 #[.int .i64 d0, .int .i64 m, .int .i64 r0, .int .i64 f0, .int .i64 i0, .int .i64 k0, .int .i64 l0, .int .i64 t0, .int .i64 lo0, .int .i64 hi0, .int .i64 a0, .int .i64 x0, .int .i64 y0, .int .i64 z0]).alloc (.cells #[.int .i64 gw, .int .i64 gb] 44); simp only [World.size_alloc] at hb1; exact hb1)
  have C2 := hide (show Blk W0 (w.heap.size + 1 + 1) 44 #[.int .i64 gw, .int .i64 gb] from by rw [h0]; have hb2 := Blk.new (((w.alloc (.cells #[.slice lA ln lc, .slice sA sn sc, .slice qA qn qc] 25))).alloc (.cells #[.int .i64 d0, .int .i64 m, .int .i64 r0, .int .i64 f0, .int .i64 i0, .int .i64 k0, .int .i64 l0, .int .i64 t0, .int .i64 lo0, .int .i64 hi0, .int .i64 a0, .int .i64 x0, .int .i64 y0, .int .i64 z0] 30)) 44 #[.int .i64 gw, .int .i64 gb]; simp only [World.size_alloc] at hb2; exact hb2)
  clear h0 B0 B1 B2 HX fz
  have r0 := (C0.out).cell 0
  have r1 := (C0.out).cell 1
  have r2 := (C0.out).cell 2
  have q0 := (C1.out).cell 0
  have q1 := (C1.out).cell 1
  have q2 := (C1.out).cell 2
  have q3 := (C1.out).cell 3
  have q4 := (C1.out).cell 4
  have q5 := (C1.out).cell 5
  have q6 := (C1.out).cell 6
  have q7 := (C1.out).cell 7
  have q8 := (C1.out).cell 8
  have q9 := (C1.out).cell 9
  have q10 := (C1.out).cell 10
  have q11 := (C1.out).cell 11
  have q12 := (C1.out).cell 12
  have q13 := (C1.out).cell 13
  have m0 := (C2.out).cell 0
  have m1 := (C2.out).cell 1
  go_wp2_with fail
  refine (HS1.out _ X0.out).mono ?_
  rintro e w1 ⟨rfl, e1⟩
  have X1 := hide (Ext.trans X0.out e1)
  have D0 := hide (C0.out.ext e1)
  have D1 := hide (C1.out.ext e1)
  have D2 := hide (C2.out.ext e1)
  clear e1 C0 C1 C2 X0
  clear r0 r1 r2 q0 q1 q2 q3 q4 q5 q6 q7 q8 q9 q10 q11 q12 q13 m0 m1
  by_cases hm : m = 1
  · subst hm
    go_wp2_with fail
    go_ret
    exact ⟨rfl, X1.out⟩
  have i1 : (m == 1) = false := by simp [hm]
  have HS3 := hide (HS2.out hm)
  have wm : IntKind.i64.wrap (m - 1) = m - 1 := by rw [IntKind.wrap_i64]; omega
  have q1 := D1.out.cell 1
  have fz := D1.out.frozen 1
  clear hm HS2
  go_upto_region 8 with (fail)
  refine gen_wpC fun W2 h0 => ?_
  have T0 : Tw w1 W2 (w.heap.size + 1) none := by rw [h0]; exact Tw.set_ _ _ _ _ _
  have C1 := hide (show Blk W2 (w.heap.size + 1) 30 #[.int .i64 d0, .int .i64 (m - 1), .int .i64 r0, .int .i64 f0, .int .i64 i0, .int .i64 k0, .int .i64 l0, .int .i64 t0, .int .i64 lo0, .int .i64 hi0, .int .i64 a0, .int .i64 x0, .int .i64 y0, .int .i64 z0] from by rw [h0]; exact D1.out.set_ 1 _)
  have C0 := hide (T0.blk D0.out (by omega) (by simp))
  have C2 := hide (T0.blk D2.out (by omega) (by simp))
  have X2 := hide (Below.trans X1.out (T0.below X1.out.size (by omega) (fun b hb => by cases hb)))
  clear h0 T0 D0 D1 D2 X1 fz q1
  have r0 := (C0.out).cell 0
  have r1 := (C0.out).cell 1
  have r2 := (C0.out).cell 2
  have q0 := (C1.out).cell 0
  have q1 := (C1.out).cell 1
  have q2 := (C1.out).cell 2
  have q3 := (C1.out).cell 3
  have q4 := (C1.out).cell 4
  have q5 := (C1.out).cell 5
  have q6 := (C1.out).cell 6
  have q7 := (C1.out).cell 7
  have q8 := (C1.out).cell 8
  have q9 := (C1.out).cell 9
  have q10 := (C1.out).cell 10
  have q11 := (C1.out).cell 11
  have q12 := (C1.out).cell 12
  have q13 := (C1.out).cell 13
  have m0 := (C2.out).cell 0
  have m1 := (C2.out).cell 1
  go_wp2_with fail
  refine (HS3.out _ X2.out).mono ?_
  rintro e w3 ⟨rfl, e3⟩
  have X3 := hide (Ext.trans X2.out e3)
  clear e3 C0 C1 C2 X2
  clear r0 r1 r2 q0 q1 q2 q3 q4 q5 q6 q7 q8 q9 q10 q11 q12 q13 m0 m1
  go_wp2_with fail
  go_ret
  exact ⟨rfl, X3.out⟩
end
set_option linter.unusedVariables false in
set_option maxRecDepth 1000000 in
set_option maxHeartbeats 16000000 in
theorem never_law {lA : Option Addr} {ln lc : Nat} {sA : Option Addr} {sn sc : Nat} {qA : Option Addr} {qn qc : Nat} {L : List Int} {S : List (List Int)} {Q : List Int} {T : List (Int × Int)} {C : List Int} {d0 s0 r0 f0 i0 k0 l0 t0 lo0 hi0 a0 x0 y0 z0 gw gb : Int} {w : World} {tA : Option Addr} {tn tc : Nat} {cA : Option Addr} {cn cc : Nat} (h : Shw w lA ln lc sA sn sc qA qn qc L S Q) (hT : At w 2 e2 tA tn tc T) (hC : At w 1 e64 cA cn cc C) :
    Calls Try.prog 7 #[shV lA ln lc sA sn sc qA qn qc, .slice tA tn tc, plV d0 s0 r0 f0 i0 k0 l0 t0 lo0 hi0 a0 x0 y0 z0, .agg #[.int .i64 gw, .int .i64 gb], .slice cA cn cc] w fun e w' => e = .returned (.bool true) ∧ Ext w w' := by
  have HX : Hid (Ext w (((w.alloc (.cells #[.slice lA ln lc, .slice sA sn sc, .slice qA qn qc] 25)).alloc (.cells #[.int .i64 d0, .int .i64 s0, .int .i64 r0, .int .i64 f0, .int .i64 i0, .int .i64 k0, .int .i64 l0, .int .i64 t0, .int .i64 lo0, .int .i64 hi0, .int .i64 a0, .int .i64 x0, .int .i64 y0, .int .i64 z0] 30)).alloc (.cells #[.int .i64 gw, .int .i64 gb] 44))) := hide (ext_alloc (ext_alloc (Ext.alloc _ _) _) _)
  have hb0 := ((Blk.new w 25 #[.slice lA ln lc, .slice sA sn sc, .slice qA qn qc]).alloc (.cells #[.int .i64 d0, .int .i64 s0, .int .i64 r0, .int .i64 f0, .int .i64 i0, .int .i64 k0, .int .i64 l0, .int .i64 t0, .int .i64 lo0, .int .i64 hi0, .int .i64 a0, .int .i64 x0, .int .i64 y0, .int .i64 z0] 30)).alloc (.cells #[.int .i64 gw, .int .i64 gb] 44)
  have hb1 := (Blk.new (w.alloc (.cells #[.slice lA ln lc, .slice sA sn sc, .slice qA qn qc] 25)) 30 #[.int .i64 d0, .int .i64 s0, .int .i64 r0, .int .i64 f0, .int .i64 i0, .int .i64 k0, .int .i64 l0, .int .i64 t0, .int .i64 lo0, .int .i64 hi0, .int .i64 a0, .int .i64 x0, .int .i64 y0, .int .i64 z0]).alloc (.cells #[.int .i64 gw, .int .i64 gb] 44)
  have hb2 := Blk.new ((w.alloc (.cells #[.slice lA ln lc, .slice sA sn sc, .slice qA qn qc] 25)).alloc (.cells #[.int .i64 d0, .int .i64 s0, .int .i64 r0, .int .i64 f0, .int .i64 i0, .int .i64 k0, .int .i64 l0, .int .i64 t0, .int .i64 lo0, .int .i64 hi0, .int .i64 a0, .int .i64 x0, .int .i64 y0, .int .i64 z0] 30)) 44 #[.int .i64 gw, .int .i64 gb]
  simp only [World.size_alloc] at hb1 hb2
  have B0 := hide hb0
  have B1 := hide hb1
  have B2 := hide hb2
  clear hb0 hb1 hb2
  have HS1 := hide (fun (W : World) (hW : Ext w W) => keySure_any (d0 := d0) (s0 := s0) (r0 := r0) (f0 := f0) (i0 := i0) (k0 := k0) (l0 := l0) (t0 := t0) (lo0 := lo0) (hi0 := hi0) (a0 := a0) (x0 := x0) (y0 := y0) (z0 := z0) (gw := gw) (gb := gb) (h.ext hW) (hC.ext hW))
  have HL1 := hide (fun (W : World) (hW : Ext w W) => keyLeast_any (d0 := d0) (s0 := s0) (r0 := r0) (f0 := f0) (i0 := i0) (k0 := k0) (l0 := l0) (t0 := t0) (lo0 := lo0) (hi0 := hi0) (a0 := a0) (x0 := x0) (y0 := y0) (z0 := z0) (gw := gw) (gb := gb) (h.ext hW) (hC.ext hW))
  have HW1 := hide (fun (W : World) (hW : Ext w W) => with_any (d0 := d0) (s0 := s0) (r0 := r0) (f0 := f0) (i0 := i0) (k0 := k0) (l0 := l0) (t0 := t0) (lo0 := lo0) (hi0 := hi0) (a0 := a0) (x0 := x0) (y0 := y0) (z0 := z0) (h.ext hW) (hT.ext hW) (hC.ext hW))
  have HK1 := hide (fun (u : Int) (hu : -9223372036854775808 ≤ u ∧ u ≤ 9223372036854775807) (W : World) (hW : Ext w W) => keyKeeps_any (gw := gw) (gb := gb) (hT.ext hW) hu)
  have HIL := hide (fun (m : Int) (W : World) (hW : Ext w W) => isLeast_any (m := m) (d0 := d0) (s0 := s0) (r0 := r0) (f0 := f0) (i0 := i0) (k0 := k0) (l0 := l0) (t0 := t0) (lo0 := lo0) (hi0 := hi0) (a0 := a0) (x0 := x0) (y0 := y0) (z0 := z0) (gw := gw) (gb := gb) (h.ext hW) (hC.ext hW))
  have HAW := hide (fun (W : World) => awake_any W)
  have HOK : Hid (surF L S Q C d0 s0 r0 f0 i0 k0 l0 t0 lo0 hi0 a0 x0 y0 z0 gw gb = 0 → (∀ i, i < L.length → 1 ≤ L.getD i 0) ∧ 0 < L.length ∧ 1 ≤ s0 ∧ s0 ≤ 1000000000) := hide (fun h0 => by
    obtain ⟨z1, z2, z3, z4, z5, z6⟩ := surF_zero h0
    have ok := filmF_ok z1
    refine ⟨fun i hi => (ok.lr i hi).1, ok.l0, ?_⟩
    unfold plrF at z6
    by_cases c1 : d0 < 0 ∨ 100000 < d0 ∨ s0 < 1 ∨ 1000000000 < s0 ∨ r0 < 1 ∨ 1000000000 < r0 ∨ f0 < 1 ∨ 1000000000 < f0 ∨ i0 < 0 ∨ 19 < i0
    · rw [if_pos c1] at z6; omega
    · omega)
  have HLE := hide (fun (h0 : surF L S Q C d0 s0 r0 f0 i0 k0 l0 t0 lo0 hi0 a0 x0 y0 z0 gw gb = 0) => least_spec (L := L) (S := S) (C := C) (d := d0) (r := r0) (f := f0) (gw := gw) (gb := gb) (HOK.out h0).1 (HOK.out h0).2.1)
  have HNS : Hid (surF L S Q C d0 s0 r0 f0 i0 k0 l0 t0 lo0 hi0 a0 x0 y0 z0 gw gb = 0 → withF L S Q T C d0 s0 r0 f0 i0 k0 l0 t0 lo0 hi0 a0 x0 y0 z0 = 0 → surB L S C d0 s0 r0 f0 gw gb = true → 0 ≤ (folF f0 s0 r0 L S (gvF C) (trF T d0) L.length).w.at_ + (folF f0 s0 r0 L S (gvF C) (trF T d0) L.length).w.buf ∧
      ((folF f0 s0 r0 L S (gvF C) (trF T d0) L.length).w.at_ + (folF f0 s0 r0 L S (gvF C) (trF T d0) L.length).w.buf ≤ 1000000000000 → kepF T gw gb ((folF f0 s0 r0 L S (gvF C) (trF T d0) L.length).w.at_ + (folF f0 s0 r0 L S (gvF C) (trF T d0) L.length).w.buf) = 0 ∧
      (kepB T gw gb ((folF f0 s0 r0 L S (gvF C) (trF T d0) L.length).w.at_ + (folF f0 s0 r0 L S (gvF C) (trF T d0) L.length).w.buf) = true → (folF f0 s0 r0 L S (gvF C) (trF T d0) L.length).w.stalls.length = 0))) := hide (fun h0 h1 h2 => by
    obtain ⟨z1, z2, z3, z4, z5, z6⟩ := surF_zero h0
    have hr : runF L S Q T d0 s0 r0 f0 i0 k0 l0 t0 lo0 hi0 a0 x0 y0 z0 = 0 := Classical.byContradiction fun c => by unfold withF at h1; rw [if_pos c] at h1; exact c h1
    have ht := runF_zero3 hr
    have hR := run_trace (d0 := d0) (s0 := s0) (r0 := r0) (f0 := f0) z1 ht z2 z5
    obtain ⟨a1, a2, _⟩ := hR.all L.length (Nat.le_refl _)
    have a3 := a1.1
    refine ⟨by omega, fun h3 => ?_⟩
    have hk : kepF T gw gb ((folF f0 s0 r0 L S (gvF C) (trF T d0) L.length).w.at_ + (folF f0 s0 r0 L S (gvF C) (trF T d0) L.length).w.buf) = 0 := by
      unfold kepF
      rw [if_neg (by omega), if_neg (by unfold prmF; rw [if_neg (by omega)]; omega), if_neg (by omega)]
    refine ⟨hk, fun h4 => ?_⟩
    rw [never_stalls z1 ht z2 z5 ⟨z4.1, z4.2.1⟩ ⟨z4.2.2.1, z4.2.2.2⟩ h2 hk h4]
    rfl)
  clear h hT hC
  generalize folF f0 s0 r0 L S (gvF C) (trF T d0) L.length = F at *
  generalize withF L S Q T C d0 s0 r0 f0 i0 k0 l0 t0 lo0 hi0 a0 x0 y0 z0 = wf at *
  have HLF : Hid (surF L S Q C d0 s0 r0 f0 i0 k0 l0 t0 lo0 hi0 a0 x0 y0 z0 gw gb = 0 → leaF L S C d0 r0 f0 gw gb (surF L S Q C d0 s0 r0 f0 i0 k0 l0 t0 lo0 hi0 a0 x0 y0 z0 gw gb) = leaF L S C d0 r0 f0 gw gb 0) := hide (fun h0 => by rw [h0])
  go_enter Try.func7, Try.ntmps7
  have r0 := (B0.out).cell 0
  have r1 := (B0.out).cell 1
  have r2 := (B0.out).cell 2
  have q0 := (B1.out).cell 0
  have q1 := (B1.out).cell 1
  have q2 := (B1.out).cell 2
  have q3 := (B1.out).cell 3
  have q4 := (B1.out).cell 4
  have q5 := (B1.out).cell 5
  have q6 := (B1.out).cell 6
  have q7 := (B1.out).cell 7
  have q8 := (B1.out).cell 8
  have q9 := (B1.out).cell 9
  have q10 := (B1.out).cell 10
  have q11 := (B1.out).cell 11
  have q12 := (B1.out).cell 12
  have q13 := (B1.out).cell 13
  have m0 := (B2.out).cell 0
  have m1 := (B2.out).cell 1
  go_wp2_with fail
  refine (HS1.out _ HX.out).mono ?_
  rintro e w1 ⟨rfl, e1⟩
  have E1 := hide (Ext.trans HX.out e1)
  have B0 := hide (B0.out.ext e1)
  have B1 := hide (B1.out.ext e1)
  have B2 := hide (B2.out.ext e1)
  clear e1 HX
  clear r0 r1 r2 q0 q1 q2 q3 q4 q5 q6 q7 q8 q9 q10 q11 q12 q13 m0 m1
  by_cases hz : surF L S Q C d0 s0 r0 f0 i0 k0 l0 t0 lo0 hi0 a0 x0 y0 z0 gw gb = 0
  rotate_left
  · rw [if_neg hz]
    have i1 : (surF L S Q C d0 s0 r0 f0 i0 k0 l0 t0 lo0 hi0 a0 x0 y0 z0 gw gb != 0) = true := by simp [hz]
    generalize surF L S Q C d0 s0 r0 f0 i0 k0 l0 t0 lo0 hi0 a0 x0 y0 z0 gw gb = sf at *
    clear HLF HNS HLE HOK HIL HK1 HW1 HL1 HS1 hz
    go_wp2_with fail
    refine (HAW.out _).mono ?_
    rintro e w2 ⟨rfl, e2⟩
    go_wp2
    go_ret
    exact ⟨rfl, Ext.trans E1.out e2⟩
  rw [if_pos hz]
  obtain ⟨k1, k2, k3, k4⟩ := HOK.out hz
  obtain ⟨l1, l2⟩ := HLE.out hz
  have HLL := hide (l2 s0 k3 k4)
  have HLA := hide l1
  have HNS2 := hide (HNS.out hz)
  have HIL2 := hide (fun (m : Int) (W : World) (hW : Ext w W) => HIL.out m W hW hz)
  have HL2 : Hid (∀ W, Ext w W → Calls Try.prog 18 #[shV lA ln lc sA sn sc qA qn qc, plV d0 s0 r0 f0 i0 k0 l0 t0 lo0 hi0 a0 x0 y0 z0, .agg #[.int .i64 gw, .int .i64 gb], .slice cA cn cc] W fun e w' => e = .returned (.tuple #[.int .i64 (leaF L S C d0 r0 f0 gw gb 0).1, .bool (leaF L S C d0 r0 f0 gw gb 0).2, .int .i64 0]) ∧ Ext W w') := hide (fun W hW => by
    have := HL1.out W hW
    rw [hz] at this
    exact this)
  clear HLF HNS HLE HOK HIL HL1 HS1 k1 k2 l1 l2 k3 k4
  rw [hz]
  clear hz
  generalize leaF L S C d0 r0 f0 gw gb 0 = lf at *
  obtain ⟨lm, lo⟩ := lf
  simp only at HLL HLA HL2
  have HSB : Hid (lo = true → surB L S C d0 lm r0 f0 gw gb = true ∧ (lm ≠ 1 → surB L S C d0 (lm - 1) r0 f0 gw gb = false)) := hide (fun h0 => (HLA.out h0).2)
  have HLM : Hid (lo = true → 1 ≤ lm ∧ lm ≤ 1000000000) := hide (fun h0 => (HLA.out h0).1)
  clear HLA
  generalize hsb : surB L S C d0 s0 r0 f0 gw gb = sb at *
  clear hsb
  have HIL3 : Hid (lo = true → ∀ W, Ext w W → Calls Try.prog 25 #[shV lA ln lc sA sn sc qA qn qc, plV d0 s0 r0 f0 i0 k0 l0 t0 lo0 hi0 a0 x0 y0 z0, .agg #[.int .i64 gw, .int .i64 gb], .slice cA cn cc, .int .i64 lm] W fun e w' => e = .returned (.bool true) ∧ Ext W w') := hide (fun h0 W hW => HIL2.out lm W hW (HLM.out h0).1 (HLM.out h0).2 (HSB.out h0).1 (HSB.out h0).2)
  clear HIL2 HSB HLM
  have r0 := (B0.out).cell 0
  have r1 := (B0.out).cell 1
  have r2 := (B0.out).cell 2
  have q0 := (B1.out).cell 0
  have q1 := (B1.out).cell 1
  have q2 := (B1.out).cell 2
  have q3 := (B1.out).cell 3
  have q4 := (B1.out).cell 4
  have q5 := (B1.out).cell 5
  have q6 := (B1.out).cell 6
  have q7 := (B1.out).cell 7
  have q8 := (B1.out).cell 8
  have q9 := (B1.out).cell 9
  have q10 := (B1.out).cell 10
  have q11 := (B1.out).cell 11
  have q12 := (B1.out).cell 12
  have q13 := (B1.out).cell 13
  have m0 := (B2.out).cell 0
  have m1 := (B2.out).cell 1
  go_wp2_with fail
  refine (HL2.out _ E1.out).mono ?_
  rintro e w2 ⟨rfl, e2⟩
  have E2 := hide (Ext.trans E1.out e2)
  have B0 := hide (B0.out.ext e2)
  have B1 := hide (B1.out.ext e2)
  have B2 := hide (B2.out.ext e2)
  clear e2 E1 HL2
  clear r0 r1 r2 q0 q1 q2 q3 q4 q5 q6 q7 q8 q9 q10 q11 q12 q13 m0 m1

  skip
  cases lo with
  | false =>
    have hsf : sb = false := by cases sb with | false => rfl | true => exact absurd (HLL.out rfl).1 (by simp)
    subst hsf
    clear HLL HIL3
    have E3 := E2
    have r0 := B0.out.cell 0
    have r1 := B0.out.cell 1
    have r2 := B0.out.cell 2
    have q0 := B1.out.cell 0
    have q1 := B1.out.cell 1
    have q2 := B1.out.cell 2
    have q3 := B1.out.cell 3
    have q4 := B1.out.cell 4
    have q5 := B1.out.cell 5
    have q6 := B1.out.cell 6
    have q7 := B1.out.cell 7
    have q8 := B1.out.cell 8
    have q9 := B1.out.cell 9
    have q10 := B1.out.cell 10
    have q11 := B1.out.cell 11
    have q12 := B1.out.cell 12
    have q13 := B1.out.cell 13
    have m0 := B2.out.cell 0
    have m1 := B2.out.cell 1
    go_wp2_with fail
    refine (HW1.out _ E3.out).mono ?_
    intro e w4 hg
    obtain ⟨hx4, hb4, hg4⟩ := hg
    by_cases hwf : wf = 0
    rotate_left
    · rw [hb4 hwf]
      have i2 : (wf != 0) = true := by simp [hwf]
      have E4 := hide (Ext.trans E3.out (Ext.trans hx4 (Ext.alloc w4 (.cells #[.slice none 0 0, .slice none 0 0, .slice none 0 0, .int .i64 0, .slice none 0 0, .int .i64 0] 33))))
      clear hb4 hg4 hwf hx4 r0 r1 r2 q0 q1 q2 q3 q4 q5 q6 q7 q8 q9 q10 q11 q12 q13 m0 m1
      go_wp2_with fail
      refine (HAW.out _).mono ?_
      rintro e w9 ⟨rfl, e9⟩
      go_wp2
      go_ret
      exact ⟨rfl, Ext.trans E4.out e9⟩
    obtain ⟨vS, rfl, ⟨cA5, cc5, aA5, ac5, rA5, rc5, tA5, tc5, rfl, _, _, _, _, _⟩, _⟩ := hg4 hwf
    have E4 := hide (Ext.trans E3.out (Ext.trans hx4 (Ext.alloc w4 (.cells #[.slice cA5 L.length cc5, .slice aA5 L.length ac5, .slice rA5 L.length rc5, .int .i64 F.w.beg, .slice tA5 F.w.stalls.length tc5, .int .i64 (F.w.at_ + F.w.buf)] 33))))
    have BS := hide (Blk.new w4 33 #[.slice cA5 L.length cc5, .slice aA5 L.length ac5, .slice rA5 L.length rc5, .int .i64 F.w.beg, .slice tA5 F.w.stalls.length tc5, .int .i64 (F.w.at_ + F.w.buf)])
    have B2 := hide (B2.out.ext (Ext.trans hx4 (Ext.alloc w4 (.cells #[.slice cA5 L.length cc5, .slice aA5 L.length ac5, .slice rA5 L.length rc5, .int .i64 F.w.beg, .slice tA5 F.w.stalls.length tc5, .int .i64 (F.w.at_ + F.w.buf)] 33))))
    have hwf2 : wf = 0 := hwf
    subst hwf2
    have HNS3 := hide (HNS2.out rfl)
    clear hb4 hg4 hwf hx4 HNS2 r0 r1 r2 q0 q1 q2 q3 q4 q5 q6 q7 q8 q9 q10 q11 q12 q13 m0 m1
    go_wp2_with fail
    refine (HAW.out _).mono ?_
    rintro e w9 ⟨rfl, e9⟩
    go_wp2
    go_ret
    exact ⟨rfl, Ext.trans E4.out e9⟩
  | true =>
    have HIL4 := hide (HIL3.out rfl)
    clear HIL3
    have r0 := B0.out.cell 0
    have r1 := B0.out.cell 1
    have r2 := B0.out.cell 2
    have q0 := B1.out.cell 0
    have q1 := B1.out.cell 1
    have q2 := B1.out.cell 2
    have q3 := B1.out.cell 3
    have q4 := B1.out.cell 4
    have q5 := B1.out.cell 5
    have q6 := B1.out.cell 6
    have q7 := B1.out.cell 7
    have q8 := B1.out.cell 8
    have q9 := B1.out.cell 9
    have q10 := B1.out.cell 10
    have q11 := B1.out.cell 11
    have q12 := B1.out.cell 12
    have q13 := B1.out.cell 13
    have m0 := B2.out.cell 0
    have m1 := B2.out.cell 1
    go_wp2_with fail
    refine (HIL4.out _ E2.out).mono ?_
    rintro e w3 ⟨rfl, e3⟩
    have E3 := hide (Ext.trans E2.out e3)
    have B0 := hide (B0.out.ext e3)
    have B1 := hide (B1.out.ext e3)
    have B2 := hide (B2.out.ext e3)
    clear e3 HIL4 r0 r1 r2 q0 q1 q2 q3 q4 q5 q6 q7 q8 q9 q10 q11 q12 q13 m0 m1
    have r0 := B0.out.cell 0
    have r1 := B0.out.cell 1
    have r2 := B0.out.cell 2
    have q0 := B1.out.cell 0
    have q1 := B1.out.cell 1
    have q2 := B1.out.cell 2
    have q3 := B1.out.cell 3
    have q4 := B1.out.cell 4
    have q5 := B1.out.cell 5
    have q6 := B1.out.cell 6
    have q7 := B1.out.cell 7
    have q8 := B1.out.cell 8
    have q9 := B1.out.cell 9
    have q10 := B1.out.cell 10
    have q11 := B1.out.cell 11
    have q12 := B1.out.cell 12
    have q13 := B1.out.cell 13
    have m0 := B2.out.cell 0
    have m1 := B2.out.cell 1
    cases sb with
    | false =>
      clear HLL
      go_wp2_with fail
      refine (HW1.out _ E3.out).mono ?_
      intro e w4 hg
      obtain ⟨hx4, hb4, hg4⟩ := hg
      by_cases hwf : wf = 0
      rotate_left
      · rw [hb4 hwf]
        have i2 : (wf != 0) = true := by simp [hwf]
        have E4 := hide (Ext.trans E3.out (Ext.trans hx4 (Ext.alloc w4 (.cells #[.slice none 0 0, .slice none 0 0, .slice none 0 0, .int .i64 0, .slice none 0 0, .int .i64 0] 33))))
        clear hb4 hg4 hwf hx4 r0 r1 r2 q0 q1 q2 q3 q4 q5 q6 q7 q8 q9 q10 q11 q12 q13 m0 m1
        go_wp2_with fail
        refine (HAW.out _).mono ?_
        rintro e w9 ⟨rfl, e9⟩
        go_wp2
        go_ret
        exact ⟨rfl, Ext.trans E4.out e9⟩
      obtain ⟨vS, rfl, ⟨cA5, cc5, aA5, ac5, rA5, rc5, tA5, tc5, rfl, _, _, _, _, _⟩, _⟩ := hg4 hwf
      have E4 := hide (Ext.trans E3.out (Ext.trans hx4 (Ext.alloc w4 (.cells #[.slice cA5 L.length cc5, .slice aA5 L.length ac5, .slice rA5 L.length rc5, .int .i64 F.w.beg, .slice tA5 F.w.stalls.length tc5, .int .i64 (F.w.at_ + F.w.buf)] 33))))
      have BS := hide (Blk.new w4 33 #[.slice cA5 L.length cc5, .slice aA5 L.length ac5, .slice rA5 L.length rc5, .int .i64 F.w.beg, .slice tA5 F.w.stalls.length tc5, .int .i64 (F.w.at_ + F.w.buf)])
      have B2 := hide (B2.out.ext (Ext.trans hx4 (Ext.alloc w4 (.cells #[.slice cA5 L.length cc5, .slice aA5 L.length ac5, .slice rA5 L.length rc5, .int .i64 F.w.beg, .slice tA5 F.w.stalls.length tc5, .int .i64 (F.w.at_ + F.w.buf)] 33))))
      have hwf2 : wf = 0 := hwf
      subst hwf2
      have HNS3 := hide (HNS2.out rfl)
      clear hb4 hg4 hwf hx4 HNS2 r0 r1 r2 q0 q1 q2 q3 q4 q5 q6 q7 q8 q9 q10 q11 q12 q13 m0 m1
      go_wp2_with fail
      refine (HAW.out _).mono ?_
      rintro e w9 ⟨rfl, e9⟩
      go_wp2
      go_ret
      exact ⟨rfl, Ext.trans E4.out e9⟩
    | true =>
      have hle := (HLL.out rfl).2
      have i4 : decide (s0 < lm) = false := by simp; omega
      clear HLL hle
      go_wp2_with fail
      refine (HW1.out _ E3.out).mono ?_
      intro e w4 hg
      obtain ⟨hx4, hb4, hg4⟩ := hg
      by_cases hwf : wf = 0
      rotate_left
      · rw [hb4 hwf]
        have i2 : (wf != 0) = true := by simp [hwf]
        have E4 := hide (Ext.trans E3.out (Ext.trans hx4 (Ext.alloc w4 (.cells #[.slice none 0 0, .slice none 0 0, .slice none 0 0, .int .i64 0, .slice none 0 0, .int .i64 0] 33))))
        clear hb4 hg4 hwf hx4 r0 r1 r2 q0 q1 q2 q3 q4 q5 q6 q7 q8 q9 q10 q11 q12 q13 m0 m1
        go_wp2_with fail
        refine (HAW.out _).mono ?_
        rintro e w9 ⟨rfl, e9⟩
        go_wp2
        go_ret
        exact ⟨rfl, Ext.trans E4.out e9⟩
      obtain ⟨vS, rfl, ⟨cA5, cc5, aA5, ac5, rA5, rc5, tA5, tc5, rfl, _, _, _, _, _⟩, _⟩ := hg4 hwf
      have E4 := hide (Ext.trans E3.out (Ext.trans hx4 (Ext.alloc w4 (.cells #[.slice cA5 L.length cc5, .slice aA5 L.length ac5, .slice rA5 L.length rc5, .int .i64 F.w.beg, .slice tA5 F.w.stalls.length tc5, .int .i64 (F.w.at_ + F.w.buf)] 33))))
      have BS := hide (Blk.new w4 33 #[.slice cA5 L.length cc5, .slice aA5 L.length ac5, .slice rA5 L.length rc5, .int .i64 F.w.beg, .slice tA5 F.w.stalls.length tc5, .int .i64 (F.w.at_ + F.w.buf)])
      have B2 := hide (B2.out.ext (Ext.trans hx4 (Ext.alloc w4 (.cells #[.slice cA5 L.length cc5, .slice aA5 L.length ac5, .slice rA5 L.length rc5, .int .i64 F.w.beg, .slice tA5 F.w.stalls.length tc5, .int .i64 (F.w.at_ + F.w.buf)] 33))))
      have hwf2 : wf = 0 := hwf
      subst hwf2
      have HNS3 := hide (HNS2.out rfl)
      clear hb4 hg4 hwf hx4 HNS2 r0 r1 r2 q0 q1 q2 q3 q4 q5 q6 q7 q8 q9 q10 q11 q12 q13 m0 m1
      obtain ⟨n1, n2⟩ := HNS3.out (by trivial)
      have HN2 := hide n2
      clear n2 HNS3
      have s4 := BS.out.cell 4
      have s5 := BS.out.cell 5
      have m0 := B2.out.cell 0
      have m1 := B2.out.cell 1
      by_cases hen : 1000000000000 < F.w.at_ + F.w.buf
      · have i3 : decide (1000000000000 < F.w.at_ + F.w.buf) = true := by simp [hen]
        clear HN2
        go_wp2_with fail
        refine (HAW.out _).mono ?_
        rintro e w9 ⟨rfl, e9⟩
        go_wp2
        go_ret
        exact ⟨rfl, Ext.trans E4.out e9⟩
      have i3 : decide (1000000000000 < F.w.at_ + F.w.buf) = false := by simp; omega
      obtain ⟨k1, k2⟩ := HN2.out (by omega)
      have HK2 := hide (HK1.out (F.w.at_ + F.w.buf) ⟨by omega, by omega⟩ _ E4.out)
      rw [k1] at HK2
      have HKS := hide k2
      clear k1 k2 HN2 HK1
      generalize kepB T gw gb (F.w.at_ + F.w.buf) = kb at *
      go_wp2_with fail
      refine HK2.out.mono ?_
      rintro e w6 ⟨rfl, e6⟩
      have E6 := hide (Ext.trans E4.out e6)
      have s4 : w6.cell? ⟨w4.heap.size, 4, none⟩ = some (.slice tA5 F.w.stalls.length tc5) := (BS.out.ext e6).cell 4
      clear e6 s5 HK2 m0 m1 i3
      cases kb with
      | false =>
        go_wp2_with fail
        refine (HAW.out _).mono ?_
        rintro e w9 ⟨rfl, e9⟩
        go_wp2
        go_ret
        exact ⟨rfl, Ext.trans E6.out e9⟩
      | true =>
        have hst := HKS.out rfl
        rw [hst] at s4
        go_wp2_with fail
        refine (HAW.out _).mono ?_
        rintro e w9 ⟨rfl, e9⟩
        go_wp2
        go_ret
        exact ⟨rfl, Ext.trans E6.out e9⟩
set_option maxRecDepth 100000 in
theorem playSureNeverStalls_lifted (os : Os) (started : os.Started) (H : Type) (enc : TypeId × Value → H) :
    ReturnsInHanded {} Try.checked os 7 .any (Rows.playSureNeverStallsSpec.pre6 enc Try.prog Try.f7 Rows.playSureNeverStallsRow.domain false) (Rows.playSureNeverStallsSpec.post enc Try.prog Try.f7 false true false false) := by
  refine returnsInHanded_of_change_sized (C := Try.checked) Try.own started (by kernel_rfl) Try.func7
    (ChangeSpec.witness6 (enc := enc) (C := Try.checked) false ⟨#[], #[.agg #[.slice none 0 0, .slice none 0 0, .slice none 0 0], .slice none 0 0, .agg #[.int .i64 0, .int .i64 0, .int .i64 0, .int .i64 0, .int .i64 0, .int .i64 0, .int .i64 0, .int .i64 0, .int .i64 0, .int .i64 0, .int .i64 0, .int .i64 0, .int .i64 0, .int .i64 0], .agg #[.int .i64 0, .int .i64 0], .slice none 0 0], []⟩ 8 (by kernel_rfl) (by kernel_rfl) (by kernel_rfl) (by kernel_rfl)) ?_
  intro W base args ds gs before hval0 hW _ _ _
  have hval : ∀ (j : Nat) t v, Try.f7.params[j]? = some t → args[j]? = some v → Value.okWide Try.prog W .any base t v := hval0
  have hW' := hW
  obtain ⟨p, q, hA0, hV, rfl, _, _⟩ := hW
  have hA : DataW.TrodAll enc Try.prog W 0 (fun _ => true) true Try.f7.params.toList args.toList ds p := hA0
  rw [Try.params7] at hA hval
  obtain ⟨v0, v1, v2, v3, v4, d0, d1, d2, d3, d4, p0, p1, p2, p3, p4, rfl, rfl, rfl, h0, h1, h2, h3, h4⟩ := trodAll5 hA
  obtain ⟨lA, ln, lc, sA, sn, sc, qA, qn, qc, L, S, Q, rfl, hSh⟩ := open_show (hval 0 25 v0 rfl rfl) h0
  obtain ⟨A1, n1, c1, l1, rfl, hAt1, _, _⟩ := open_flows (hval 1 26 v1 rfl rfl) h1
  obtain ⟨q0, q1, q2, q3, q4, q5, q6, q7, q8, q9, q10, q11, q12, q13, rfl⟩ := open_player (hval 2 30 v2 rfl rfl) h2
  obtain ⟨gw, gb, rfl⟩ := open_promise (hval 3 44 v3 rfl rfl) h3
  obtain ⟨A4, n4, c4, l4, rfl, hAt4, _, _⟩ := open_intsP Try.underlying22 Try.underlying3 cellsInt (hval 4 22 v4 rfl rfl) h4
  refine (never_law hSh hAt1 hAt4).mono fun e W' ⟨he, hE⟩ => ?_
  subst he
  exact ⟨_, rfl, law_post Try.laidOut Try.underlying4 hW' rfl rfl rfl (by kernel_rfl) hE⟩
theorem playSureNeverStalls_closed : joinedFacts Try.prog 7 Try.f7 Rows.playSureNeverStallsSpec Rows.playSureNeverStallsRow = true :=
  joined_of Try.laidOut Try.mapsRowed Try.plainKeys Try.stopsHeard Try.stopsNone Try.knobsNone Try.mayEnter Try.makeCut Try.liftsFinal rfl rfl rfl (by as_aux_lemma => kernel_rfl)
    (by as_aux_lemma => kernel_rfl) (by as_aux_lemma => kernel_rfl) (by as_aux_lemma => kernel_rfl) (by as_aux_lemma => kernel_rfl) (by as_aux_lemma => kernel_rfl) (by as_aux_lemma => kernel_rfl) (by as_aux_lemma => kernel_rfl) (by as_aux_lemma => kernel_rfl) (by as_aux_lemma => kernel_rfl) (by as_aux_lemma => kernel_rfl)
theorem playSureNeverStalls_holds : Rows.PlaySureNeverStallsSaid :=
  OpenClaim.holds_of_wide 7 Try.f7 rfl rfl rfl rfl rfl rfl rfl ⟨rfl, rfl, rfl, rfl, rfl⟩ rfl rfl rfl rfl rfl (by as_aux_lemma => kernel_rfl) Try.func7 playSureNeverStalls_closed
    (of_decide_eq_true (by kernel_rfl)) (by unfold Func.isWrapper; first | (rw [if_pos (by decide +kernel)]; kernel_rfl) | (rw [if_neg (by decide +kernel)]; exact ⟨rfl, rfl⟩))
    (fun os started H enc _ => playSureNeverStalls_lifted os started H enc)
#print axioms playSureNeverStalls_holds

end Go.Proofs.Ytjbgkoeojfmkkaa
