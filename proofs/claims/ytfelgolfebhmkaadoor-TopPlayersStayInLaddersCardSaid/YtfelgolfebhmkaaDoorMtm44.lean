/- Plain: what Run of the program gives, in one form: its choices, a right session, a run that goes well. Conditions as stated. -/
import Derived.Test.YtfelgolfebhmkaaDoorMtm41
import Derived.Test.YtfelgolfebhmkaaDoorMtm43
import Derived.Test.YtfelgolfebhmkaaDoorMtm28
namespace Go.Proofs.YtfelgolfebhmkaaDoor
open Go.RowKit
section
variable {lA : Option Addr} {ln lc : Nat} {sA : Option Addr} {sn sc : Nat} {qA : Option Addr} {qn qc : Nat} {L : List Int} {S : List (List Int)} {Q : List Int} {d0 s0 r0 f0 i0 k0 l0 t0 lo0 hi0 a0 x0 y0 z0 : Int} {w : World} {T : List (Int × Int)} {C : List Int}
theorem fol_chC (hC : C.length = L.length) : (folF f0 s0 r0 L S (gvF C) (trF T d0) L.length).ch = C := by
  by_cases h0 : L.length = 0
  · rw [h0]
    have : C = [] := List.eq_nil_of_length_eq_zero (by omega)
    rw [this]; rfl
  have hl := (fol_gets (full := f0) (start := s0) (resume := r0) (L := L) (S := S) (pk := gvF C) (av := trF T d0) L.length 0 (by omega)).2.2.2.2.2
  apply List.ext_getElem (by rw [hl, hC])
  intro i h1 h2
  have hg := (fol_gets (full := f0) (start := s0) (resume := r0) (L := L) (S := S) (pk := gvF C) (av := trF T d0) L.length i (by omega)).2.2.1
  have e1 : rN f0 s0 r0 L S (gvF C) (trF T d0) i = C.getD i 0 := rfl
  rw [e1] at hg
  simp only [List.getD_eq_getElem?_getD] at hg
  rw [List.getElem?_eq_getElem h1, List.getElem?_eq_getElem h2] at hg
  simpa using hg
theorem rng_ok {lo hi : Int} : ∀ l : List Int, (∀ i, i < l.length → lo ≤ l.getD i 0 ∧ l.getD i 0 ≤ hi) → rngB lo hi l = false
  | [], _ => rfl
  | y :: r, h => by
    have h0 := h 0 (by simp)
    rw [rngB_cons, rng_ok r (fun i hi2 => by have := h (i + 1) (by simp; omega); simpa using this)]
    simp at h0 ⊢
    omega
theorem chs_ok (hC : C.length = L.length) (hk : okC S.length C) : chsF L.length S.length C = 0 := by
  unfold chsF
  rw [if_neg (by omega)]
  rw [rng_ok C (fun i hi => by have := hk i; omega), if_neg (by simp)]
theorem run_form {e : Ending} {w' : World} (hu : runF L S Q T d0 s0 r0 f0 i0 k0 l0 t0 lo0 hi0 a0 x0 y0 z0 = 0) (h : RunGives w (runF L S Q T d0 s0 r0 f0 i0 k0 l0 t0 lo0 hi0 a0 x0 y0 z0) L S T d0 s0 r0 f0 i0 k0 l0 t0 lo0 hi0 a0 x0 y0 z0 e w') :
    ∃ (C : List Int) (cA : Option Addr) (cc : Nat) (aA : Option Addr) (ac : Nat) (rA : Option Addr) (rc : Nat) (tA : Option Addr) (tc : Nat),
      e = .returned (.tuple #[.agg #[.slice cA L.length cc, .slice aA L.length ac, .slice rA L.length rc, .int .i64 (folF f0 s0 r0 L S (gvF C) (trF T d0) L.length).w.beg, .slice tA (folF f0 s0 r0 L S (gvF C) (trF T d0) L.length).w.stalls.length tc, .int .i64 ((folF f0 s0 r0 L S (gvF C) (trF T d0) L.length).w.at_ + (folF f0 s0 r0 L S (gvF C) (trF T d0) L.length).w.buf)], .int .i64 0]) ∧
      (C.length = L.length ∧ okC S.length C ∧ withF L S Q T C d0 s0 r0 f0 i0 k0 l0 t0 lo0 hi0 a0 x0 y0 z0 = 0 ∧ (folF f0 s0 r0 L S (gvF C) (trF T d0) L.length).ch = C ∧ (∀ n, n < L.length → (fun n F r => (n = 0 → r = i0) ∧ (0 < n → k0 = 2 → r = rateC (ratesL L S) (sumB (F.loads.drop (F.loads.length - l0.toNat))) (sumG (F.loads.drop (F.loads.length - l0.toNat))) t0)) n (folF f0 s0 r0 L S (gvF C) (trF T d0) n) (C.getD n 0))) ∧
      (At w' 1 e64 cA L.length cc C ∧ At w' 1 e64 aA L.length ac (folF f0 s0 r0 L S (gvF C) (trF T d0) L.length).asd ∧ At w' 1 e64 rA L.length rc (folF f0 s0 r0 L S (gvF C) (trF T d0) L.length).arr ∧ At w' 2 e2 tA (folF f0 s0 r0 L S (gvF C) (trF T d0) L.length).w.stalls.length tc (folF f0 s0 r0 L S (gvF C) (trF T d0) L.length).w.stalls) ∧ Ext w w' ∧
      SesOk L S.length C (folF f0 s0 r0 L S (gvF C) (trF T d0) L.length).asd (folF f0 s0 r0 L S (gvF C) (trF T d0) L.length).arr (folF f0 s0 r0 L S (gvF C) (trF T d0) L.length).w.beg (folF f0 s0 r0 L S (gvF C) (trF T d0) L.length).w.stalls ((folF f0 s0 r0 L S (gvF C) (trF T d0) L.length).w.at_ + (folF f0 s0 r0 L S (gvF C) (trF T d0) L.length).w.buf) ∧ RunOk f0 s0 r0 L S (gvF C) (trF T d0) 1000000000000 1000100000 := by
  obtain ⟨hx, _, hg⟩ := h
  obtain ⟨C, v, ⟨hC1, hC2, hC3⟩, rfl, ⟨cA, cc, aA, ac, rA, rc, tA, tc, rfl, m1, m2, m3, m4, _⟩, l1, l2, l3, _⟩ := hg hu
  obtain ⟨hF, hT, hd, _⟩ := runF_zero hu
  have hR := run_traceC (f0 := f0) (s0 := s0) (r0 := r0) hF hT hd hC2
  have hS := ses_ok hR (filmF_ok hF).l0 (by omega)
  rw [l1] at m1
  rw [l2] at m2
  rw [l3] at m3
  rw [fol_chC hC1] at m1 hS
  exact ⟨C, cA, cc, aA, ac, rA, rc, tA, tc, by rw [l1, l2, l3], ⟨hC1, hC2, by unfold withF; rw [if_neg (by omega)]; exact chs_ok hC1 hC2, fol_chC hC1, hC3⟩, ⟨m1, m2, m3, m4⟩, hx, hS, hR⟩
end
end Go.Proofs.YtfelgolfebhmkaaDoor
