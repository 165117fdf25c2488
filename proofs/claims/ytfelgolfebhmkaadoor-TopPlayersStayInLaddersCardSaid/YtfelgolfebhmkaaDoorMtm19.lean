/- Several texts in one: Walks: given, onTrace, and what they return. Conditions as stated; Words for slices of slices of numbers. No condition; Words for films: what CheckFilm answers, in plain words; a film in memory. No condition. -/
import Derived.Test.YtfelgolfebhmkaaDoorMtm18
import Derived.Test.YtfelgolfebhmkaaDoorMtm02
import Derived.Test.YtfelgolfebhmkaaDoorMtm00
import Derived.Test.YtfelgolfebhmkaaDoorMtm01
namespace Go.Proofs.YtfelgolfebhmkaaDoor
open Go.RowKit
theorem onTrace_any {A : Option Addr} {n c : Nat} (d0 s0 r0 f0 i0 k0 l0 t0 lo0 hi0 a0 x0 y0 z0 : Int) (w : World) :
    Calls Tryd.prog 15 #[.slice A n c, .agg #[.int .i64 d0, .int .i64 s0, .int .i64 r0, .int .i64 f0, .int .i64 i0, .int .i64 k0, .int .i64 l0, .int .i64 t0, .int .i64 lo0, .int .i64 hi0, .int .i64 a0, .int .i64 x0, .int .i64 y0, .int .i64 z0]] w fun e w' => e = .returned (.func (.func 35) #[] #[.pointer (some ⟨w.heap.size, 0, none⟩), .pointer (some ⟨w.heap.size + 1, 0, none⟩)]) ∧ (Blk w' w.heap.size 32 #[.slice A n c] ∧ Blk w' (w.heap.size + 1) 29 #[.int .i64 d0, .int .i64 s0, .int .i64 r0, .int .i64 f0, .int .i64 i0, .int .i64 k0, .int .i64 l0, .int .i64 t0, .int .i64 lo0, .int .i64 hi0, .int .i64 a0, .int .i64 x0, .int .i64 y0, .int .i64 z0]) ∧ Ext w w' := by
  go_enter Tryd.func15, Tryd.ntmps15
  go_wp2
  go_ret
  refine ⟨rfl, ⟨(Blk.new _ _ _).alloc _, ?_⟩, ext_alloc (Ext.alloc _ _) _⟩
  have := Blk.new (w.alloc (.cells #[.slice A n c] 32)) 29 #[.int .i64 d0, .int .i64 s0, .int .i64 r0, .int .i64 f0, .int .i64 i0, .int .i64 k0, .int .i64 l0, .int .i64 t0, .int .i64 lo0, .int .i64 hi0, .int .i64 a0, .int .i64 x0, .int .i64 y0, .int .i64 z0]
  rwa [World.size_alloc] at this
theorem onTraceC_any {A : Option Addr} {n c : Nat} {l : List (Int × Int)} {q1 q2 : Nat} {d : Int} {W : World} (h1 : W.cell? ⟨q1, 0, none⟩ = some (.slice A n c)) (h2 : W.cell? ⟨q2, 0, none⟩ = some (.int .i64 d)) (h : At W 2 e2 A n c l) (hz : trcF l = 0) {a z : Int} (ha : 0 ≤ a ∧ a ≤ 1000000000000000000) (hd : 0 ≤ d ∧ d ≤ 100000) (hf : 0 ≤ a + d ∧ a + d ≤ 2000000000000) (hb : 0 ≤ z ∧ z ≤ 1000000000) :
    Calls Tryd.prog 35 #[.int .i64 a, .int .i64 z, .pointer (some ⟨q1, 0, none⟩), .pointer (some ⟨q2, 0, none⟩)] W fun e w' => e = .returned (.int .i64 (endsP l (a + d) z)) ∧ Ext W w' := by
  have HE := hide (fun (W' : World) (hW : Ext W W') => keyEndsIn_any (h.ext hW) hz hf hb)
  obtain ⟨ha1, ha2⟩ := ha
  obtain ⟨hd1, hd2⟩ := hd
  clear h hz hf hb
  go_enter Tryd.func35, Tryd.ntmps35
  go_wp2_with fail
  refine (HE.out _ (Ext.refl _)).mono ?_
  rintro e w' ⟨rfl, e1⟩
  go_wp2
  go_ret
  exact ⟨rfl, e1⟩
abbrev eH (h : Option Addr × Nat × Nat) : List Value := [.slice h.1 h.2.1 h.2.2]
structure Rws (w : World) (A : Option Addr) (n c : Nat) (xs : List (List Int)) : Prop where
  len : xs.length = n
  rows : ∃ hs : List (Option Addr × Nat × Nat), At w 1 eH A n c hs ∧ ∀ k, k < n → At w 1 e64 (hs.getD k (none, 0, 0)).1 (hs.getD k (none, 0, 0)).2.1 (hs.getD k (none, 0, 0)).2.2 (xs.getD k [])
section
variable {w w' : World} {A : Option Addr} {n c : Nat} {xs : List (List Int)}
theorem Rws.ext (h : Rws w A n c xs) (he : Ext w w') : Rws w' A n c xs := by
  obtain ⟨hl, hs, h1, h2⟩ := h
  exact ⟨hl, hs, h1.ext he, fun k hk => (h2 k hk).ext he⟩
theorem Rws.bound (h : Rws w A n c xs) : n ≤ 9223372036854775807 := by
  obtain ⟨hl, hs, h1, h2⟩ := h
  exact h1.bound
theorem Rws.addr (h : Rws w A n c xs) (hn : 0 < n) : ∃ b off, A = some ⟨b, off, none⟩ := by
  obtain ⟨hl, hs, h1, h2⟩ := h
  obtain ⟨b, off, e, _⟩ := h1.addr hn
  exact ⟨b, off, e⟩
theorem Rws.row {b off : Nat} (h : Rws w (some ⟨b, off, none⟩) n c xs) {k : Nat} (hk : k < n) :
    ∃ A' n' c', w.cell? ⟨b, off + k, none⟩ = some (.slice A' n' c') ∧ At w 1 e64 A' n' c' (xs.getD k []) := by
  obtain ⟨hl, hs, h1, h2⟩ := h
  have hh := h1.len
  obtain ⟨b', off', e, hc⟩ := h1.cells k _ (List.getElem?_eq_getElem (by omega))
  injection e with e
  injection e with e1 e2
  subst e1 e2
  have := hc 0 _ rfl
  have hg := h2 k hk
  rw [show hs.getD k (none, 0, 0) = hs[k]'(by omega) by simp [List.getD, show k < hs.length by omega]] at hg
  exact ⟨_, _, _, by simpa using this, hg⟩
end
def rngB (lo hi : Int) (l : List Int) : Bool := l.any fun x => decide (x < lo ∨ hi < x)
theorem rngB_false {lo hi : Int} {l : List Int} (h : rngB lo hi l = false) (i : Nat) (hi' : i < l.length) : lo ≤ l.getD i 0 ∧ l.getD i 0 ≤ hi := by
  unfold rngB at h
  rw [List.any_eq_false] at h
  have := h _ (getD_mem l i 0 hi')
  simp only [decide_eq_true_eq] at this
  omega
def szEl (L : List Int) (S : List (List Int)) (Q : List Int) (i : Nat) : Int :=
  if (S.getD i []).length ≠ L.length then 3
  else if rngB 1 1000000000 (S.getD i []) = true then 1
  else if Q.getD i 0 < 0 ∨ 1000000 < Q.getD i 0 then 1
  else if 0 < i ∧ (Q.getD i 0 < Q.getD (i - 1) 0 ∨ (S.getD i []).sum < (S.getD (i - 1) []).sum) then 8 else 0
def filmF (L : List Int) (S : List (List Int)) (Q : List Int) : Int :=
  if L.length = 0 then 9
  else if 200 < L.length then 2
  else if rngB 1 1000000000 L = true then 1
  else if S.length = 0 then 9
  else if 20 < S.length then 2
  else if Q.length ≠ S.length then 3
  else firstF (szEl L S Q) S.length
theorem szEl_ok {L : List Int} {S : List (List Int)} {Q : List Int} {i : Nat} (h : szEl L S Q i = 0) :
    (S.getD i []).length = L.length ∧ rngB 1 1000000000 (S.getD i []) = false ∧ (0 ≤ Q.getD i 0 ∧ Q.getD i 0 ≤ 1000000) := by
  unfold szEl at h
  by_cases h1 : (S.getD i []).length ≠ L.length
  · rw [if_pos h1] at h; omega
  rw [if_neg h1] at h
  by_cases h2 : rngB 1 1000000000 (S.getD i []) = true
  · rw [if_pos h2] at h; omega
  rw [if_neg h2] at h
  by_cases h3 : Q.getD i 0 < 0 ∨ 1000000 < Q.getD i 0
  · rw [if_pos h3] at h; omega
  exact ⟨by omega, by simpa using h2, by omega⟩
structure FilmOk (L : List Int) (S : List (List Int)) (Q : List Int) : Prop where
  l0 : 0 < L.length
  l1 : L.length ≤ 200
  lr : ∀ i, i < L.length → 1 ≤ L.getD i 0 ∧ L.getD i 0 ≤ 1000000000
  s0 : 0 < S.length
  s1 : S.length ≤ 20
  q : Q.length = S.length
  sl : ∀ i, i < S.length → (S.getD i []).length = L.length
  sr : ∀ i, i < S.length → ∀ k, k < L.length → 1 ≤ (S.getD i []).getD k 0 ∧ (S.getD i []).getD k 0 ≤ 1000000000
  qr : ∀ i, i < S.length → 0 ≤ Q.getD i 0 ∧ Q.getD i 0 ≤ 1000000
  el : ∀ i, i < S.length → szEl L S Q i = 0
theorem filmF_ok {L : List Int} {S : List (List Int)} {Q : List Int} (h : filmF L S Q = 0) : FilmOk L S Q := by
  unfold filmF at h
  by_cases h1 : L.length = 0
  · rw [if_pos h1] at h; omega
  rw [if_neg h1] at h
  by_cases h2 : 200 < L.length
  · rw [if_pos h2] at h; omega
  rw [if_neg h2] at h
  by_cases h3 : rngB 1 1000000000 L = true
  · rw [if_pos h3] at h; omega
  rw [if_neg h3] at h
  by_cases h4 : S.length = 0
  · rw [if_pos h4] at h; omega
  rw [if_neg h4] at h
  by_cases h5 : 20 < S.length
  · rw [if_pos h5] at h; omega
  rw [if_neg h5] at h
  by_cases h6 : Q.length ≠ S.length
  · rw [if_pos h6] at h; omega
  rw [if_neg h6] at h
  have ha := firstF_all h
  exact ⟨by omega, by omega, fun i hi => rngB_false (by simpa using h3) i hi, by omega, by omega, by omega, fun i hi => (szEl_ok (ha i hi)).1,
    fun i hi k hk => rngB_false (szEl_ok (ha i hi)).2.1 k (by rw [(szEl_ok (ha i hi)).1]; exact hk), fun i hi => (szEl_ok (ha i hi)).2.2, ha⟩
@[reducible] def shV (lA : Option Addr) (ln lc : Nat) (sA : Option Addr) (sn sc : Nat) (qA : Option Addr) (qn qc : Nat) : Value := .agg #[.slice lA ln lc, .slice sA sn sc, .slice qA qn qc]
structure Shw (w : World) (lA : Option Addr) (ln lc : Nat) (sA : Option Addr) (sn sc : Nat) (qA : Option Addr) (qn qc : Nat) (L : List Int) (S : List (List Int)) (Q : List Int) : Prop where
  longs : At w 1 e64 lA ln lc L
  sizes : Rws w sA sn sc S
  qual : At w 1 e64 qA qn qc Q
theorem Shw.ext {w w' : World} {lA : Option Addr} {ln lc : Nat} {sA : Option Addr} {sn sc : Nat} {qA : Option Addr} {qn qc : Nat} {L : List Int} {S : List (List Int)} {Q : List Int}
    (h : Shw w lA ln lc sA sn sc qA qn qc L S Q) (he : Ext w w') : Shw w' lA ln lc sA sn sc qA qn qc L S Q := ⟨h.longs.ext he, h.sizes.ext he, h.qual.ext he⟩
end Go.Proofs.YtfelgolfebhmkaaDoor
