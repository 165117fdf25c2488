/- Plain: on a faster network a player that never waits has each segment at least as soon. Conditions as stated. -/
import Derived.Test.YtjbgkoeojfmkkaaWithP
import Derived.Test.YtjbgkoeojfmkkaaFasA
namespace Go.Proofs.Ytjbgkoeojfmkkaa
section
variable {L : List Int} {S : List (List Int)} {Q : List Int} {T : List (Int × Int)} {C : List Int} {full start resume : Int} {pk : Nat → Int → Int → List (Int × Int) → Int → Int} {av : Int → Int → Int}
theorem came_buf {start resume long t : Int} {last : Bool} {s : WaT} (h : okW s) (ht : s.at_ ≤ t) : (camT start resume long t last s).buf ≤ s.buf + long := by
  obtain ⟨a0, b0, p0, g0, s0, e0, l0⟩ := s
  unfold okW at h
  unfold camT landT passT drainT
  cases p0 <;> cases g0 <;> cases last <;> grind
theorem fol_get : ∀ n i, i < n → (folF full start resume L S pk av n).asd.getD i 0 = asN full start resume L S pk av i ∧ (folF full start resume L S pk av n).arr.getD i 0 = tN full start resume L S pk av i
  | 0, i, h => by omega
  | n + 1, i, h => by
    have ih := fol_get n
    obtain ⟨h1, h2, h3, _⟩ := fol_len full start resume L S pk av n
    have e1 : (folF full start resume L S pk av (n + 1)).asd = (folF full start resume L S pk av n).asd ++ [asN full start resume L S pk av n] := rfl
    have e2 : (folF full start resume L S pk av (n + 1)).arr = (folF full start resume L S pk av n).arr ++ [tN full start resume L S pk av n] := rfl
    rw [e1, e2]
    by_cases hi : i < n
    · have := ih i hi
      rw [← this.1, ← this.2]
      simp [List.getD, List.getElem?_append, h2, h3, hi]
    · obtain rfl : i = n := by omega
      simp [List.getD, h2, h3]
theorem buf_sum {M D : Int} (hR : RunOk full start resume L S pk av M D) : ∀ n, n ≤ L.length → (folF full start resume L S pk av n).w.buf ≤ sumI L n
  | 0, _ => by simp [folF, FoT.zero, WaT.zero, sumI]
  | n + 1, hn => by
    have ih := buf_sum hR n (by omega)
    obtain ⟨h1, h2, h3, h4⟩ := hR.all n (by omega)
    have hf := hR.few
    obtain ⟨_, c1, _⟩ := hR.comes n (by omega) h1 h2 (by omega)
    have hb := ask_bd (full := full) (long := L.getD n 0) h1
    have e0 : asN full start resume L S pk av n = askT full (L.getD n 0) (folF full start resume L S pk av n).w := rfl
    have e : (folF full start resume L S pk av (n + 1)).w = camT start resume (L.getD n 0) (tN full start resume L S pk av n) (decide (n + 1 = L.length)) (folF full start resume L S pk av n).w := rfl
    have := came_buf (start := start) (resume := resume) (long := L.getD n 0) (last := decide (n + 1 = L.length)) h1 (t := tN full start resume L S pk av n) (by omega)
    rw [e, sumI_succ (by omega)]
    omega
theorem sumI_mono {l : List Int} (h : ∀ i, i < l.length → 0 ≤ l.getD i 0) : ∀ m n, m ≤ n → n ≤ l.length → sumI l m ≤ sumI l n
  | m, 0, h1, h2 => by obtain rfl : m = 0 := by omega
                       exact Int.le_refl _
  | m, n + 1, h1, h2 => by
    by_cases e : m = n + 1
    · rw [e]; exact Int.le_refl _
    · have := sumI_mono h m n (by omega) (by omega)
      rw [sumI_succ (by omega)]
      have := h n (by omega)
      omega
/-- With a buffer as large as all of the film it asks at once. -/
theorem as_roomy {M D : Int} (hR : RunOk full start resume L S pk av M D) (hs : L.sum ≤ full) (n : Nat) (hn : n + 1 < L.length) : asN full start resume L S pk av (n + 1) = tN full start resume L S pk av n := by
  have hb := buf_sum hR (n + 1) (by omega)
  obtain ⟨h1, _⟩ := hR.all (n + 1) (by omega)
  have e0 : asN full start resume L S pk av (n + 1) = askT full (L.getD (n + 1) 0) (folF full start resume L S pk av (n + 1)).w := rfl
  have e : (folF full start resume L S pk av (n + 1)).w = camT start resume (L.getD n 0) (tN full start resume L S pk av n) (decide (n + 1 = L.length)) (folF full start resume L S pk av n).w := rfl
  have ha : (folF full start resume L S pk av (n + 1)).w.at_ = tN full start resume L S pk av n := by rw [e, camT_at]
  have hq := sumI_mono (fun i hi => (hR.longs i hi).1) (n + 2) L.length (by omega) (by omega)
  rw [sumI_all rfl, sumI_succ (by omega)] at hq
  have h0 := h1.1
  rw [e0, ← ha]
  unfold askT
  split <;> omega
end
section
variable {L : List Int} {S : List (List Int)} {Q : List Int} {T : List (Int × Int)} {C : List Int} {d0 s0 r0 f0 : Int}
theorem fast_le {m : Int} (hF : filmF L S Q = 0) (hT : trcF T = 0) (hT' : trcF (fastT m T) = 0) (hm : 0 ≤ m) (hd : 0 ≤ d0 ∧ d0 ≤ 100000) (hC : chsF L.length S.length C = 0) (hs : L.sum ≤ 1000000000)
    (hw : NoWait (folF f0 s0 r0 L S (gvF C) (trF T d0) L.length).asd (folF f0 s0 r0 L S (gvF C) (trF T d0) L.length).arr L.length) :
    ∀ i, i < L.length → (folF 1000000000 s0 r0 L S (gvF C) (trF (fastT m T) d0) L.length).arr.getD i 0 ≤ (folF f0 s0 r0 L S (gvF C) (trF T d0) L.length).arr.getD i 0 := by
  have hR := run_trace (f0 := f0) (s0 := s0) (r0 := r0) hF hT hd hC
  have hR' := run_trace (f0 := 1000000000) (s0 := s0) (r0 := r0) hF hT' hd hC
  have hl := hR.few
  have hz : ∀ i, i < L.length → 0 ≤ (S.getD (C.getD i 0).toNat []).getD i 0 ∧ (S.getD (C.getD i 0).toNat []).getD i 0 ≤ 1000000000 := fun i _ => size_any (filmF_ok hF) _ _
  have hlow : ∀ n, n < L.length → 0 ≤ asN f0 s0 r0 L S (gvF C) (trF T d0) n ∧ asN f0 s0 r0 L S (gvF C) (trF T d0) n ≤ 500000000000000000 := fun n hn => by
    obtain ⟨h1, h2, h3, _⟩ := hR.all n (by omega)
    have hb := ask_bd (full := f0) (long := L.getD n 0) h1
    have e2 : asN f0 s0 r0 L S (gvF C) (trF T d0) n = askT f0 (L.getD n 0) (folF f0 s0 r0 L S (gvF C) (trF T d0) n).w := rfl
    have : (n : Int) * 1000100000 ≤ 200 * 1000100000 := by omega
    omega
  have hlow' : ∀ n, n < L.length → 0 ≤ asN 1000000000 s0 r0 L S (gvF C) (trF (fastT m T) d0) n := fun n hn => by
    obtain ⟨h1, h2, h3, _⟩ := hR'.all n (by omega)
    have hb := ask_bd (full := 1000000000) (long := L.getD n 0) h1
    have e2 : asN 1000000000 s0 r0 L S (gvF C) (trF (fastT m T) d0) n = askT 1000000000 (L.getD n 0) (folF 1000000000 s0 r0 L S (gvF C) (trF (fastT m T) d0) n).w := rfl
    omega
  have key : ∀ i, i < L.length → asN 1000000000 s0 r0 L S (gvF C) (trF (fastT m T) d0) i ≤ asN f0 s0 r0 L S (gvF C) (trF T d0) i → tN 1000000000 s0 r0 L S (gvF C) (trF (fastT m T) d0) i ≤ tN f0 s0 r0 L S (gvF C) (trF T d0) i := fun i hi h => by
    have e1 : tN 1000000000 s0 r0 L S (gvF C) (trF (fastT m T) d0) i = endsP (fastT m T) (asN 1000000000 s0 r0 L S (gvF C) (trF (fastT m T) d0) i + d0) ((S.getD (C.getD i 0).toNat []).getD i 0) := rfl
    have e2 : tN f0 s0 r0 L S (gvF C) (trF T d0) i = endsP T (asN f0 s0 r0 L S (gvF C) (trF T d0) i + d0) ((S.getD (C.getD i 0).toNat []).getD i 0) := rfl
    have := hlow i hi
    have := hlow' i hi
    rw [e1, e2]
    exact ends_fast hT hm (hz i hi) ⟨by omega, by omega, by omega⟩
  intro i
  induction i with
  | zero =>
    intro hi
    rw [(fol_get _ _ hi).2, (fol_get _ _ hi).2]
    exact key 0 hi (Int.le_refl _)
  | succ i ih =>
    intro hi
    have h1 := ih (by omega)
    rw [(fol_get _ _ (by omega)).2, (fol_get _ _ (by omega)).2] at h1 ⊢
    have h2 := hw (i + 1) (by omega) hi
    rw [(fol_get _ _ hi).1, Nat.add_sub_cancel, (fol_get _ _ (by omega)).2] at h2
    refine key (i + 1) hi ?_
    rw [as_roomy hR' hs i hi, h2]
    exact h1
/-- The faults of a faster trace. -/
theorem fast_getD (m : Int) (l : List (Int × Int)) (i : Nat) (h : i < l.length) : (fastT m l).getD i (0, 0) = ((l.getD i (0, 0)).1, (l.getD i (0, 0)).2 + m) := by
  unfold fastT
  simp [List.getD, h]
theorem firstF_01 {g : Nat → Int} : ∀ {n : Nat}, (∀ j, j < n → g j = 0 ∨ g j = 1) → firstF g n = 0 ∨ firstF g n = 1
  | 0, _ => .inl rfl
  | n + 1, h => by
    have ih := firstF_01 (g := g) (n := n) (fun j hj => h j (by omega))
    have := h n (by omega)
    rw [firstF]
    split <;> assumption
theorem trc_fast {m : Int} (hm : 0 ≤ m) (h : trcF T = 0) : trcF (fastT m T) = 0 ∨ trcF (fastT m T) = 1 := by
  obtain ⟨h1, h2, h3, h4⟩ := trcF_zero h
  have hl : (fastT m T).length = T.length := by unfold fastT; simp
  have he : ∀ j, j < T.length → trEl (fastT m T) j = 0 ∨ trEl (fastT m T) j = 1 := fun j hj => by
    obtain ⟨q1, q2, q3, q4⟩ := trEl_zero (h3 j hj)
    unfold trEl
    rw [fast_getD m T j hj]
    rw [if_neg (by omega), if_neg (by
      by_cases j0 : j = 0
      · have := q3 j0; omega
      · rw [fast_getD m T (j - 1) (by omega)]
        have := q4 (by omega); omega)]
    split <;> omega
  have hf := firstF_01 he
  have ht := trEl_zero (h3 (T.length - 1) (by omega))
  have hx : ((fastT m T).getD (T.length - 1) (0, 0)).2 = (T.getD (T.length - 1) (0, 0)).2 + m := by rw [fast_getD m T _ (by omega)]
  unfold trcF
  rw [hl, hx]
  rw [if_neg (by omega), if_neg (by omega)]
  split
  · assumption
  · rw [if_neg (by omega)]; exact .inl rfl
theorem with_fast {i0 k0 l0 t0 lo0 hi0 a0 x0 y0 z0 m : Int} (hm : 0 ≤ m) (h : withF L S Q T C d0 s0 r0 f0 i0 k0 l0 t0 lo0 hi0 a0 x0 y0 z0 = 0) :
    withF L S Q (fastT m T) C d0 s0 r0 1000000000 i0 k0 l0 t0 lo0 hi0 a0 x0 y0 z0 = 0 ∧ trcF (fastT m T) = 0 ∨ withF L S Q (fastT m T) C d0 s0 r0 1000000000 i0 k0 l0 t0 lo0 hi0 a0 x0 y0 z0 = 1 := by
  have hr : runF L S Q T d0 s0 r0 f0 i0 k0 l0 t0 lo0 hi0 a0 x0 y0 z0 = 0 := by
    apply Classical.byContradiction; intro hc
    unfold withF at h; rw [if_pos hc] at h; exact hc h
  have hc : chsF L.length S.length C = 0 := by
    unfold withF at h; rw [if_neg (by omega)] at h; exact h
  obtain ⟨z1, z2, z3, z4⟩ := runF_zero hr
  have hp : playF S.length d0 s0 r0 f0 i0 k0 l0 t0 lo0 hi0 a0 x0 y0 z0 = 0 := by
    unfold runF at hr
    rw [z1, z2, if_neg (by decide)] at hr
    exact hr
  have hp' : playF S.length d0 s0 r0 1000000000 i0 k0 l0 t0 lo0 hi0 a0 x0 y0 z0 = playF S.length d0 s0 r0 f0 i0 k0 l0 t0 lo0 hi0 a0 x0 y0 z0 := by
    have e : plrF d0 s0 r0 1000000000 i0 k0 l0 t0 lo0 hi0 a0 x0 y0 z0 = plrF d0 s0 r0 f0 i0 k0 l0 t0 lo0 hi0 a0 x0 y0 z0 := by
      unfold plrF
      congr 1
      apply propext
      constructor <;> intro h <;> omega
    unfold playF fstF
    rw [e]
  rw [hp] at hp'
  rcases trc_fast hm z2 with e | e
  · left
    refine ⟨?_, e⟩
    unfold withF runF
    rw [z1, e, if_neg (show ¬ firstNZ [0, 0] ≠ 0 by decide), hp', if_neg (by omega)]
    exact hc
  · right
    unfold withF runF
    rw [z1, e]
    simp [firstNZ]
end
end Go.Proofs.Ytjbgkoeojfmkkaa
