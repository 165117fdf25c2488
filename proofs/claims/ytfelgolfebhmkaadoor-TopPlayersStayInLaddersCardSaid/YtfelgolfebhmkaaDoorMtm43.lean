/- What a player that is followed leaves is a right session; what is in the buffer at each time. Plain. Conditions as stated. -/
import Derived.Test.YtfelgolfebhmkaaDoorMtm42
import Derived.Test.YtfelgolfebhmkaaDoorMtm20
namespace Go.Proofs.YtfelgolfebhmkaaDoor
structure SesOk (L : List Int) (m : Nat) (ch asd arr : List Int) (beg : Int) (sts : List (Int × Int)) (en : Int) : Prop where
  l0 : 0 < L.length
  l1 : L.length ≤ 200
  lr : ∀ i, i < L.length → 0 ≤ L.getD i 0 ∧ L.getD i 0 ≤ 1000000000
  lc : ch.length = L.length
  la : asd.length = L.length
  le : arr.length = L.length
  cr : ∀ i, i < L.length → 0 ≤ ch.getD i 0 ∧ ch.getD i 0 < m
  ar : ∀ i, i < L.length → 0 ≤ asd.getD i 0 ∧ asd.getD i 0 ≤ arr.getD i 0 ∧ arr.getD i 0 ≤ 2000000000000
  od : ∀ i, i + 1 < L.length → arr.getD i 0 ≤ asd.getD (i + 1) 0
  b0 : arr.getD 0 0 ≤ beg
  b1 : beg ≤ 2000000000000
  few : sts.length ≤ L.length
  sr : ∀ k, k < sts.length → (sts.getD k (0, 0)).1 < (sts.getD k (0, 0)).2 ∧ (sts.getD k (0, 0)).2 ≤ 2000000000000 ∧ beg ≤ (sts.getD k (0, 0)).1
  so : ∀ k, k + 1 < sts.length → (sts.getD k (0, 0)).2 ≤ (sts.getD (k + 1) (0, 0)).1
  e0 : 0 ≤ en
  e1 : en ≤ 2000000000000
  es : en = beg + (sts.map fun x => x.2 - x.1).sum + L.sum
theorem stOk_get {e : Int} : ∀ {l : List (Int × Int)} {b : Int}, stOk b e l → (∀ k, k < l.length → (l.getD k (0, 0)).1 < (l.getD k (0, 0)).2 ∧ (l.getD k (0, 0)).2 ≤ e ∧ b ≤ (l.getD k (0, 0)).1) ∧ (∀ k, k + 1 < l.length → (l.getD k (0, 0)).2 ≤ (l.getD (k + 1) (0, 0)).1)
  | [], _, _ => ⟨fun k hk => absurd hk (Nat.not_lt_zero _), fun k hk => absurd hk (Nat.not_lt_zero _)⟩
  | x :: r, b, h => by
    obtain ⟨h1, h2, h3⟩ := h
    obtain ⟨g1, g2⟩ := stOk_get h3
    have hle := stOk_le h3
    refine ⟨fun k hk => ?_, fun k hk => ?_⟩
    · cases k with
      | zero => exact ⟨h2, hle, h1⟩
      | succ k =>
        have := g1 k (by simpa using hk)
        simp only [List.getD_cons_succ]
        omega
    · cases k with
      | zero =>
        have := g1 0 (by simpa using hk)
        simp only [List.getD_cons_succ, List.getD_cons_zero]
        exact this.2.2
      | succ k =>
        have := g2 k (by simpa using hk)
        simpa only [List.getD_cons_succ] using this
theorem stS_sum {t : Int} : ∀ {l : List (Int × Int)}, (∀ x ∈ l, x.1 < x.2 ∧ x.2 ≤ t) → stS t l = (l.map fun x => x.2 - x.1).sum
  | [], _ => rfl
  | x :: r, h => by
    have h1 := h x (List.mem_cons_self ..)
    have := stS_sum (l := r) (fun y hy => h y (List.mem_cons_of_mem _ hy))
    simp only [stS, this, List.map_cons, List.sum_cons]; omega
theorem plays_last {start resume long t : Int} {s : WaT} : (camT start resume long t true s).plays = true ∧ (okW s → (camT start resume long t true s).begun = true) := by
  obtain ⟨a0, b0, p0, g0, s0, e0, l0⟩ := s
  unfold camT landT passT drainT okW
  cases p0 <;> cases g0 <;> grind
section
variable {full start resume : Int} {L : List Int} {S : List (List Int)} {pk : Nat → Int → Int → List (Int × Int) → Int → Int} {av : Int → Int → Int} {M D : Int}
theorem fol_gets : ∀ n i, i < n → (folF full start resume L S pk av n).asd.getD i 0 = asN full start resume L S pk av i ∧ (folF full start resume L S pk av n).arr.getD i 0 = tN full start resume L S pk av i ∧ (folF full start resume L S pk av n).ch.getD i 0 = rN full start resume L S pk av i
    ∧ (folF full start resume L S pk av n).asd.length = n ∧ (folF full start resume L S pk av n).arr.length = n ∧ (folF full start resume L S pk av n).ch.length = n
  | 0, i, h => absurd h (Nat.not_lt_zero _)
  | n + 1, i, h => by
    have hl : (folF full start resume L S pk av n).asd.length = n ∧ (folF full start resume L S pk av n).arr.length = n ∧ (folF full start resume L S pk av n).ch.length = n := by
      cases n with
      | zero => exact ⟨rfl, rfl, rfl⟩
      | succ n => exact (fol_gets (n + 1) 0 (by omega)).2.2.2
    have e1 : (folF full start resume L S pk av (n + 1)).asd = (folF full start resume L S pk av n).asd ++ [asN full start resume L S pk av n] := rfl
    have e2 : (folF full start resume L S pk av (n + 1)).arr = (folF full start resume L S pk av n).arr ++ [tN full start resume L S pk av n] := rfl
    have e3 : (folF full start resume L S pk av (n + 1)).ch = (folF full start resume L S pk av n).ch ++ [rN full start resume L S pk av n] := rfl
    obtain ⟨l1, l2, l3⟩ := hl
    refine ⟨?_, ?_, ?_, by rw [e1]; simp [l1], by rw [e2]; simp [l2], by rw [e3]; simp [l3]⟩
    all_goals
      first | rw [e1] | rw [e2] | rw [e3]
      by_cases hi : i < n
      · have := fol_gets n i hi
        simp only [List.getD_eq_getElem?_getD] at this ⊢
        rw [List.getElem?_append_left (by omega)]
        first | exact this.1 | exact this.2.1 | exact this.2.2.1
      · obtain rfl : i = n := by omega
        simp only [List.getD_eq_getElem?_getD]
        rw [List.getElem?_append_right (by omega)]
        simp [l1, l2, l3]
theorem fol_w (n : Nat) : (folF full start resume L S pk av (n + 1)).w = camT start resume (L.getD n 0) (tN full start resume L S pk av n) (decide (n + 1 = L.length)) (folF full start resume L S pk av n).w := rfl
theorem fol_at (n : Nat) : (folF full start resume L S pk av (n + 1)).w.at_ = tN full start resume L S pk av n := by rw [fol_w, camT_at]
theorem RunOk.step (h : RunOk full start resume L S pk av M D) {n : Nat} (hn : n < L.length) : okW (folF full start resume L S pk av n).w ∧ (0 ≤ rN full start resume L S pk av n ∧ rN full start resume L S pk av n < S.length) ∧ 0 ≤ (folF full start resume L S pk av n).w.at_ ∧ (folF full start resume L S pk av n).w.at_ ≤ asN full start resume L S pk av n ∧ asN full start resume L S pk av n ≤ tN full start resume L S pk av n := by
  obtain ⟨h1, h2, h3, h4⟩ := h.all n (by omega)
  have hf := h.few
  obtain ⟨c0, c1, c2⟩ := h.comes n hn h1 h2 (by omega)
  exact ⟨h1, c0, h2, (ask_bd h1).1, c1⟩
theorem fol_okS0 (h : RunOk full start resume L S pk av M D) : ∀ n, n ≤ L.length → okS (folF full start resume L S pk av n).w 0 (sumI L n)
  | 0, _ => ⟨okW.zero, Int.le_refl _, (fun h => Bool.noConfusion h), (fun _ => ⟨rfl, rfl⟩), (fun h => Bool.noConfusion h)⟩
  | n + 1, hn => by
    have ih := fol_okS0 h n (by omega)
    obtain ⟨_, _, _, _, h1⟩ := h.step (show n < L.length by omega)
    rw [sumI_succ (by omega), fol_w]
    exact ih.came (h.longs n (by omega)).1 h1
theorem okS_first {start resume long t b : Int} {last : Bool} (h : okS (camT start resume long t last WaT.zero) 0 b) : okS (camT start resume long t last WaT.zero) t b := by
  refine ⟨h.ok, by rw [camT_at]; exact Int.le_refl _, fun hb => ⟨?_, (h.beg hb).2⟩, h.none, h.done⟩
  unfold camT landT passT drainT WaT.zero at hb ⊢
  grind
theorem fol_okS (h : RunOk full start resume L S pk av M D) : ∀ n, n + 1 ≤ L.length → okS (folF full start resume L S pk av (n + 1)).w (tN full start resume L S pk av 0) (sumI L (n + 1))
  | 0, hn => okS_first (fol_okS0 h 1 hn)
  | n + 1, hn => by
    have ih := fol_okS h n (by omega)
    obtain ⟨_, _, _, _, h1⟩ := h.step (show n + 1 < L.length by omega)
    rw [sumI_succ (by omega), fol_w]
    exact ih.came (h.longs (n + 1) (by omega)).1 h1
theorem at_mono (h : RunOk full start resume L S pk av M D) (n : Nat) : ∀ m, n + m ≤ L.length → (folF full start resume L S pk av n).w.at_ ≤ (folF full start resume L S pk av (n + m)).w.at_
  | 0, _ => Int.le_refl _
  | m + 1, hm => by
    have := at_mono h n m (by omega)
    obtain ⟨_, _, _, h2, h3⟩ := h.step (show n + m < L.length by omega)
    rw [show n + (m + 1) = n + m + 1 by omega, fol_at]
    omega
theorem end_all (h : RunOk full start resume L S pk av M D) (h0 : 0 < L.length) : (folF full start resume L S pk av L.length).w.plays = true ∧ (folF full start resume L S pk av L.length).w.begun = true := by
  obtain ⟨n, hn⟩ : ∃ n, L.length = n + 1 := ⟨L.length - 1, by omega⟩
  rw [hn, fol_w, show decide (n + 1 = L.length) = true by simp [hn]]
  exact ⟨plays_last.1, plays_last.2 (h.all n (by omega)).1⟩
theorem stalls_few (n : Nat) : (folF full start resume L S pk av n).w.stalls.length ≤ n := by
  induction n with
  | zero => exact Nat.le_refl _
  | succ n ih =>
    rw [fol_w]
    have : ∀ (start resume long t : Int) (last : Bool) (s : WaT), (camT start resume long t last s).stalls.length ≤ s.stalls.length + 1 := by
      intro start resume long t last s
      unfold camT landT passT
      grind
    have := this start resume (L.getD n 0) (tN full start resume L S pk av n) (decide (n + 1 = L.length)) (folF full start resume L S pk av n).w
    omega
theorem ses_ok (h : RunOk full start resume L S pk av M D) (h0 : 0 < L.length) (hM : M + 200 * D ≤ 1500000000000) :
    SesOk L S.length (folF full start resume L S pk av L.length).ch (folF full start resume L S pk av L.length).asd (folF full start resume L S pk av L.length).arr (folF full start resume L S pk av L.length).w.beg (folF full start resume L S pk av L.length).w.stalls ((folF full start resume L S pk av L.length).w.at_ + (folF full start resume L S pk av L.length).w.buf) := by
  have hg := fun i hi => fol_gets (full := full) (start := start) (resume := resume) (L := L) (S := S) (pk := pk) (av := av) L.length i hi
  obtain ⟨_, hat0, hN, hN2⟩ := h.all L.length (Nat.le_refl _)
  have hf := h.few
  have hD := h.d0
  have hD2 : (L.length : Int) * D ≤ 200 * D := Int.mul_le_mul_of_nonneg_right (by omega) hD
  obtain ⟨m, hm⟩ : ∃ m, L.length = m + 1 := ⟨L.length - 1, by omega⟩
  have hs : okS (folF full start resume L S pk av L.length).w (tN full start resume L S pk av 0) (sumI L L.length) := by rw [hm]; exact fol_okS h m (by omega)
  have hs0 := hs.ok.1
  obtain ⟨hp, hb⟩ := end_all h h0
  obtain ⟨hb1, hb2⟩ := hs.beg hb
  rw [if_pos hp] at hb2
  have hle := stOk_le hb2
  have hge := stOk_get hb2
  have hdn := hs.done hb
  have htn : ∀ i, i < L.length → tN full start resume L S pk av i ≤ (folF full start resume L S pk av L.length).w.at_ := fun i hi => by
    have := at_mono h (i + 1) (L.length - (i + 1)) (by omega)
    rw [show i + 1 + (L.length - (i + 1)) = L.length by omega, fol_at] at this
    exact this
  refine ⟨h0, hf, h.longs, (hg 0 h0).2.2.2.2.2, (hg 0 h0).2.2.2.1, (hg 0 h0).2.2.2.2.1, fun i hi => ?_, fun i hi => ?_, fun i hi => ?_, ?_, by omega, stalls_few _, fun k hk => ?_, hge.2, by omega, by omega, ?_⟩
  · rw [(hg i hi).2.2.1]; exact (h.step hi).2.1
  · rw [(hg i hi).1, (hg i hi).2.1]
    have := h.step hi
    have := htn i hi
    omega
  · rw [(hg (i + 1) hi).1, (hg i (by omega)).2.1]
    have := (h.step hi).2.2.2.1
    rw [fol_at] at this
    exact this
  · rw [(hg 0 h0).2.1]; exact hb1
  · have := hge.1 k hk
    omega
  · have e : stS (folF full start resume L S pk av L.length).w.at_ (folF full start resume L S pk av L.length).w.stalls = ((folF full start resume L S pk av L.length).w.stalls.map fun x => x.2 - x.1).sum := stS_sum fun x hx => ⟨(stOk_mem hb2 x hx).2.1, (stOk_mem hb2 x hx).2.2⟩
    rw [pT, if_pos hb, if_pos hp, e, show sumI L L.length = L.sum from by unfold sumI; rw [List.take_length]] at hdn
    omega
end
end Go.Proofs.YtfelgolfebhmkaaDoor
