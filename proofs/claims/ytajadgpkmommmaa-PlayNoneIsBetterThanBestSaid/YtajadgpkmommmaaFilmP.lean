/- Words for films: what CheckFilm answers, in plain words; a film in memory. No condition. -/
import Derived.Test.YtajadgpkmommmaaRows2
import Derived.Test.YtajadgpkmommmaaPairs
namespace Go.Proofs.Ytajadgpkmommmaa
open Go.RowKit

/-- Is a number not from lo to hi? -/
def rngB (lo hi : Int) (l : List Int) : Bool := l.any fun x => decide (x < lo ∨ hi < x)
theorem rngB_false {lo hi : Int} {l : List Int} (h : rngB lo hi l = false) (i : Nat) (hi' : i < l.length) : lo ≤ l.getD i 0 ∧ l.getD i 0 ≤ hi := by
  unfold rngB at h
  rw [List.any_eq_false] at h
  have := h _ (getD_mem l i 0 hi')
  simp only [decide_eq_true_eq] at this
  omega
theorem rngB_true {lo hi : Int} {l : List Int} {i : Nat} (hi' : i < l.length) (h : l.getD i 0 < lo ∨ hi < l.getD i 0) : rngB lo hi l = true := by
  unfold rngB
  rw [List.any_eq_true]
  exact ⟨_, getD_mem l i 0 hi', by simpa using h⟩
theorem rngB_none {lo hi : Int} {l : List Int} (h : ∀ i, i < l.length → lo ≤ l.getD i 0 ∧ l.getD i 0 ≤ hi) : rngB lo hi l = false := by
  unfold rngB
  rw [List.any_eq_false]
  intro x hx
  obtain ⟨j, hj, rfl⟩ := mem_getD 0 hx
  have := h j hj
  simp only [decide_eq_true_eq]
  omega
/-- The fault of the sizes of a rendition and its quality. -/
def szEl (L : List Int) (S : List (List Int)) (Q : List Int) (i : Nat) : Int :=
  if (S.getD i []).length ≠ L.length then 3
  else if rngB 1 1000000000 (S.getD i []) = true then 1
  else if Q.getD i 0 < 0 ∨ 1000000 < Q.getD i 0 then 1
  else if 0 < i ∧ (Q.getD i 0 < Q.getD (i - 1) 0 ∨ (S.getD i []).sum < (S.getD (i - 1) []).sum) then 8 else 0
/-- CheckFilm. -/
def filmF (L : List Int) (S : List (List Int)) (Q : List Int) : Int :=
  if L.length = 0 then 9
  else if 200 < L.length then 2
  else if rngB 1 1000000000 L = true then 1
  else if S.length = 0 then 9
  else if 20 < S.length then 2
  else if Q.length ≠ S.length then 3
  else firstF (szEl L S Q) S.length
theorem szEl_ok {L : List Int} {S : List (List Int)} {Q : List Int} {i : Nat} (h : szEl L S Q i = 0) :
    (S.getD i []).length = L.length ∧ rngB 1 1000000000 (S.getD i []) = false ∧ (0 ≤ Q.getD i 0 ∧ Q.getD i 0 ≤ 1000000) := by
  unfold szEl at h
  by_cases h1 : (S.getD i []).length ≠ L.length
  · rw [if_pos h1] at h; omega
  rw [if_neg h1] at h
  by_cases h2 : rngB 1 1000000000 (S.getD i []) = true
  · rw [if_pos h2] at h; omega
  rw [if_neg h2] at h
  by_cases h3 : Q.getD i 0 < 0 ∨ 1000000 < Q.getD i 0
  · rw [if_pos h3] at h; omega
  exact ⟨by omega, by simpa using h2, by omega⟩
/-- What a film that is right is. -/
structure FilmOk (L : List Int) (S : List (List Int)) (Q : List Int) : Prop where
  l0 : 0 < L.length
  l1 : L.length ≤ 200
  lr : ∀ i, i < L.length → 1 ≤ L.getD i 0 ∧ L.getD i 0 ≤ 1000000000
  s0 : 0 < S.length
  s1 : S.length ≤ 20
  q : Q.length = S.length
  sl : ∀ i, i < S.length → (S.getD i []).length = L.length
  sr : ∀ i, i < S.length → ∀ k, k < L.length → 1 ≤ (S.getD i []).getD k 0 ∧ (S.getD i []).getD k 0 ≤ 1000000000
  qr : ∀ i, i < S.length → 0 ≤ Q.getD i 0 ∧ Q.getD i 0 ≤ 1000000
  el : ∀ i, i < S.length → szEl L S Q i = 0
theorem filmF_ok {L : List Int} {S : List (List Int)} {Q : List Int} (h : filmF L S Q = 0) : FilmOk L S Q := by
  unfold filmF at h
  by_cases h1 : L.length = 0
  · rw [if_pos h1] at h; omega
  rw [if_neg h1] at h
  by_cases h2 : 200 < L.length
  · rw [if_pos h2] at h; omega
  rw [if_neg h2] at h
  by_cases h3 : rngB 1 1000000000 L = true
  · rw [if_pos h3] at h; omega
  rw [if_neg h3] at h
  by_cases h4 : S.length = 0
  · rw [if_pos h4] at h; omega
  rw [if_neg h4] at h
  by_cases h5 : 20 < S.length
  · rw [if_pos h5] at h; omega
  rw [if_neg h5] at h
  by_cases h6 : Q.length ≠ S.length
  · rw [if_pos h6] at h; omega
  rw [if_neg h6] at h
  have ha := firstF_all h
  exact ⟨by omega, by omega, fun i hi => rngB_false (by simpa using h3) i hi, by omega, by omega, by omega, fun i hi => (szEl_ok (ha i hi)).1,
    fun i hi k hk => rngB_false (szEl_ok (ha i hi)).2.1 k (by rw [(szEl_ok (ha i hi)).1]; exact hk), fun i hi => (szEl_ok (ha i hi)).2.2, ha⟩

/-! ### A film in memory -/
@[reducible] def shV (lA : Option Addr) (ln lc : Nat) (sA : Option Addr) (sn sc : Nat) (qA : Option Addr) (qn qc : Nat) : Value := .agg #[.slice lA ln lc, .slice sA sn sc, .slice qA qn qc]
structure Shw (w : World) (lA : Option Addr) (ln lc : Nat) (sA : Option Addr) (sn sc : Nat) (qA : Option Addr) (qn qc : Nat) (L : List Int) (S : List (List Int)) (Q : List Int) : Prop where
  longs : At w 1 e64 lA ln lc L
  sizes : Rws w sA sn sc S
  qual : At w 1 e64 qA qn qc Q
theorem Shw.ext {w w' : World} {lA : Option Addr} {ln lc : Nat} {sA : Option Addr} {sn sc : Nat} {qA : Option Addr} {qn qc : Nat} {L : List Int} {S : List (List Int)} {Q : List Int}
    (h : Shw w lA ln lc sA sn sc qA qn qc L S Q) (he : Ext w w') : Shw w' lA ln lc sA sn sc qA qn qc L S Q := ⟨h.longs.ext he, h.sizes.ext he, h.qual.ext he⟩
end Go.Proofs.Ytajadgpkmommmaa
