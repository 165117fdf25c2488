/- Plain: while it plays, a player asks only if there is room; a segment comes later than it is asked for. Conditions as stated. -/
import Derived.Test.YtajadgpkmommmaaLawRZ
import Derived.Test.YtajadgpkmommmaaPlainNet
namespace Go.Proofs.Ytajadgpkmommmaa
theorem ends_gt {l : List (Int × Int)} (hz : trcF l = 0) {f b : Int} (hf : 0 ≤ f ∧ f ≤ 2000000000000) (hb : 1 ≤ b ∧ b ≤ 1000000000) : f < endsP l f b := by
  obtain ⟨h0, _, hall, _⟩ := trcF_zero hz
  have hok := okT_all hz 0 (by omega)
  have hx := (trEl_zero (hall 0 h0)).2.2.1 rfl
  rw [List.drop_zero] at hok
  match l, h0 with
  | x :: r, _ =>
    have e : max f x.1 = f := by simp at hx; omega
    have := (ends_first r x f b hok (by omega) hb.2 hf.1 hf.2).1
    rw [e] at this
    exact this
/-- It is played at a time, by the session alone. -/
def plyB (beg en : Int) (sts : List (Int × Int)) (t : Int) : Bool := !(decide (t < beg) || decide (en ≤ t)) && !(sts.any fun x => decide (x.1 ≤ t ∧ t < x.2))
theorem plyB_true {beg en t : Int} {sts : List (Int × Int)} (h : plyB beg en sts t = true) : beg ≤ t ∧ ∀ x ∈ sts, ¬ (x.1 ≤ t ∧ t < x.2) := by
  unfold plyB at h
  simp only [Bool.and_eq_true, Bool.not_eq_true', Bool.or_eq_false_iff, decide_eq_false_iff_not, List.any_eq_false] at h
  exact ⟨by omega, fun x hx => by have := h.2 x hx; simpa using this⟩
theorem cam_still {start resume long u : Int} {last : Bool} {s : WaT} (hp : s.plays = false) :
    ((camT start resume long u last s).plays = false → (camT start resume long u last s).begun = s.begun ∧ (camT start resume long u last s).stalled = s.stalled) ∧
    ((camT start resume long u last s).plays = true → s.begun = true → (camT start resume long u last s).stalls = s.stalls ++ [(s.stalled, u)]) ∧
    ((camT start resume long u last s).plays = true → s.begun = false → (camT start resume long u last s).beg = u ∧ (camT start resume long u last s).begun = true) := by
  obtain ⟨a0, b0, p0, g0, s0, e0, l0⟩ := s
  simp only at hp
  subst hp
  unfold camT landT passT drainT
  cases g0 <;> grind
theorem cam_keep {start resume long u : Int} {last : Bool} {s : WaT} :
    (∀ x, x ∈ s.stalls → x ∈ (camT start resume long u last s).stalls) ∧ (s.begun = true → (camT start resume long u last s).begun = true ∧ (camT start resume long u last s).beg = s.beg) := by
  obtain ⟨a0, b0, p0, g0, s0, e0, l0⟩ := s
  unfold camT landT passT
  refine ⟨fun x hx => ?_, fun h => ?_⟩
  · cases p0 <;> cases g0 <;> grind
  · simp only at h
    subst h
    cases p0 <;> grind
section
variable {full start resume : Int} {L : List Int} {S : List (List Int)} {pk : Nat → Int → Int → List (Int × Int) → Int → Int} {av : Int → Int → Int} {M D : Int}
theorem still_later (h : RunOk full start resume L S pk av M D) {n : Nat} {t : Int} (hp : (folF full start resume L S pk av n).w.plays = false) (ht : ∀ j, n ≤ j → j < L.length → t < tN full start resume L S pk av j) : ∀ m, n + m ≤ L.length →
    ((folF full start resume L S pk av (n + m)).w.plays = false ∧ (folF full start resume L S pk av (n + m)).w.begun = (folF full start resume L S pk av n).w.begun ∧ (folF full start resume L S pk av (n + m)).w.stalled = (folF full start resume L S pk av n).w.stalled) ∨
    ((folF full start resume L S pk av n).w.begun = true ∧ ∃ x ∈ (folF full start resume L S pk av (n + m)).w.stalls, x.1 = (folF full start resume L S pk av n).w.stalled ∧ t < x.2) ∨
    ((folF full start resume L S pk av n).w.begun = false ∧ (folF full start resume L S pk av (n + m)).w.begun = true ∧ t < (folF full start resume L S pk av (n + m)).w.beg)
  | 0, _ => Or.inl ⟨hp, rfl, rfl⟩
  | m + 1, hm => by
    have ih := still_later h hp ht m (by omega)
    have hu := ht (n + m) (by omega) (by omega)
    have e : (folF full start resume L S pk av (n + (m + 1))).w = camT start resume (L.getD (n + m) 0) (tN full start resume L S pk av (n + m)) (decide (n + m + 1 = L.length)) (folF full start resume L S pk av (n + m)).w := fol_w (n + m)
    rw [e]
    generalize tN full start resume L S pk av (n + m) = u at *
    generalize decide (n + m + 1 = L.length) = la at *
    generalize L.getD (n + m) 0 = lo at *
    generalize (folF full start resume L S pk av (n + m)).w = s at *
    have hk := cam_keep (start := start) (resume := resume) (long := lo) (u := u) (last := la) (s := s)
    rcases ih with ⟨h1, h2, h3⟩ | ⟨h1, x, hx, h2, h3⟩ | ⟨h1, h2, h3⟩
    · obtain ⟨k1, k2, k3⟩ := cam_still (start := start) (resume := resume) (long := lo) (u := u) (last := la) h1
      cases hq : (camT start resume lo u la s).plays with
      | false => exact Or.inl ⟨rfl, by rw [(k1 hq).1, h2], by rw [(k1 hq).2, h3]⟩
      | true =>
        cases hb : s.begun with
        | true =>
          refine Or.inr (Or.inl ⟨by rw [← h2, hb], (s.stalled, u), ?_, h3, hu⟩)
          rw [k2 hq hb]
          exact List.mem_append_right _ (List.mem_singleton.2 rfl)
        | false => exact Or.inr (Or.inr ⟨by rw [← h2, hb], (k3 hq hb).2, by rw [(k3 hq hb).1]; exact hu⟩)
    · exact Or.inr (Or.inl ⟨h1, x, hk.1 x hx, h2, h3⟩)
    · exact Or.inr (Or.inr ⟨h1, (hk.2 h2).1, by rw [(hk.2 h2).2]; exact h3⟩)
/-- While it plays, it asks only if the buffer and what it asks for are together at most Full. -/
theorem keeps_buf (h : RunOk full start resume L S pk av M D) (hgt : ∀ j, j < L.length → asN full start resume L S pk av j < tN full start resume L S pk av j) {n : Nat} (hn : n < L.length)
    (hb : plyB (folF full start resume L S pk av L.length).w.beg ((folF full start resume L S pk av L.length).w.at_ + (folF full start resume L S pk av L.length).w.buf) (folF full start resume L S pk av L.length).w.stalls (asN full start resume L S pk av n) = true)
    (hl : 0 < levK (folF full start resume L S pk av L.length).arr L (asN full start resume L S pk av n) L.length - plyP (folF full start resume L S pk av L.length).w.beg (folF full start resume L S pk av L.length).w.stalls ((folF full start resume L S pk av L.length).w.at_ + (folF full start resume L S pk av L.length).w.buf) (asN full start resume L S pk av n)) :
    levK (folF full start resume L S pk av L.length).arr L (asN full start resume L S pk av n) L.length - plyP (folF full start resume L S pk av L.length).w.beg (folF full start resume L S pk av L.length).w.stalls ((folF full start resume L S pk av L.length).w.at_ + (folF full start resume L S pk av L.length).w.buf) (asN full start resume L S pk av n) + L.getD n 0 ≤ full := by
  obtain ⟨ok1, _, h0, h1, h2⟩ := h.step hn
  have hE : asN full start resume L S pk av n ≤ (folF full start resume L S pk av L.length).w.at_ + (folF full start resume L S pk av L.length).w.buf := by
    have ha := at_mono h (n + 1) (L.length - (n + 1)) (by omega)
    rw [show n + 1 + (L.length - (n + 1)) = L.length by omega, fol_at] at ha
    have := (h.all L.length (Nat.le_refl _)).1.1
    omega
  rw [bal_eq h hn h1 (hgt n hn) hE] at hl ⊢
  have ea : asN full start resume L S pk av n = askT full (L.getD n 0) (folF full start resume L S pk av n).w := rfl
  cases hp : (folF full start resume L S pk av n).w.plays with
  | true =>
    unfold askT at ea
    rw [if_pos hp] at ea
    unfold bufT at hl ⊢
    rw [if_pos hp] at hl ⊢
    omega
  | false =>
    exfalso
    unfold askT at ea
    rw [if_neg (by rw [hp]; exact Bool.noConfusion)] at ea
    obtain ⟨hq, hbg⟩ := end_all h (by omega)
    obtain ⟨p1, p2⟩ := plyB_true hb
    have htj : ∀ j, n ≤ j → j < L.length → asN full start resume L S pk av n < tN full start resume L S pk av j := fun j h1 h2 => by
      have := at_mono h (n + 1) (j + 1 - (n + 1)) (by omega)
      rw [show n + 1 + (j + 1 - (n + 1)) = j + 1 by omega, fol_at, fol_at] at this
      have := hgt n hn
      omega
    have hs := still_later h hp htj (L.length - n) (by omega)
    rw [show n + (L.length - n) = L.length by omega] at hs
    rcases hs with ⟨c, _⟩ | ⟨c1, x, hx, c2, c3⟩ | ⟨_, _, c3⟩
    · rw [hq] at c; exact Bool.noConfusion c
    · have := ok1.2.2 hp c1
      exact p2 x hx ⟨by omega, c3⟩
    · omega
end
end Go.Proofs.Ytajadgpkmommmaa
