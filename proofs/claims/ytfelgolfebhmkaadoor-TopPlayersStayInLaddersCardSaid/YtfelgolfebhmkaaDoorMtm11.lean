/- How a player is followed, in plain words: the program's way and that of the document are one. Conditions as stated. -/
import Init
namespace Go.Proofs.YtfelgolfebhmkaaDoor
structure WaT where
  at_ : Int
  buf : Int
  plays : Bool
  begun : Bool
  stalled : Int
  beg : Int
  stalls : List (Int × Int)
def WaT.zero : WaT := ⟨0, 0, false, false, 0, 0, []⟩
def askT (full long : Int) (s : WaT) : Int := if s.plays = true then s.at_ + min s.buf (max 0 (s.buf + long - full)) else s.at_
def bufT (s : WaT) (t : Int) : Int := if s.plays = true then max 0 (s.buf - (t - s.at_)) else s.buf
def passT (t : Int) (s : WaT) : WaT := if s.plays = true ∧ s.at_ + s.buf < t then { s with plays := false, stalled := s.at_ + s.buf } else s
def drainT (t : Int) (s : WaT) : Int := if s.plays = true then s.buf - (t - s.at_) else if s.begun = true ∧ s.at_ ≤ s.stalled then 0 else s.buf
def landT (start resume long t : Int) (last : Bool) (s : WaT) : WaT :=
  if s.plays = true then { s with at_ := t, buf := drainT t s + long }
  else if s.begun = false ∧ (start ≤ drainT t s + long ∨ last = true) then { s with at_ := t, buf := drainT t s + long, plays := true, begun := true, beg := t }
  else if s.begun = true ∧ (resume ≤ drainT t s + long ∨ last = true) then { s with at_ := t, buf := drainT t s + long, plays := true, stalls := s.stalls ++ [(s.stalled, t)] }
  else { s with at_ := t, buf := drainT t s + long }
def camT (start resume long t : Int) (last : Bool) (s : WaT) : WaT := landT start resume long t last (passT t s)
def okW (s : WaT) : Prop := 0 ≤ s.buf ∧ (s.plays = true → s.begun = true) ∧ (s.plays = false → s.begun = true → s.stalled < s.at_)
theorem okW.zero : okW WaT.zero := ⟨Int.le_refl _, fun h => (by cases h), fun _ h => (by cases h)⟩
theorem ask_bd {full long : Int} {s : WaT} (h : okW s) : s.at_ ≤ askT full long s ∧ askT full long s ≤ s.at_ + s.buf := by
  unfold askT
  have := h.1
  split <;> omega
theorem ask_still {full long : Int} {s : WaT} (h : s.plays = false) : askT full long s = s.at_ := by unfold askT; rw [h]; rfl
theorem okW.came {full start resume long t : Int} {last : Bool} {s : WaT} (h : okW s) (hl : 0 ≤ long) (ht : askT full long s ≤ t) : okW (camT start resume long t last s) := by
  have hb := ask_bd (full := full) (long := long) h
  have hs := ask_still (full := full) (long := long) (s := s)
  generalize askT full long s = a at *
  obtain ⟨a0, b0, p0, g0, s0, e0, l0⟩ := s
  unfold okW at *
  unfold camT landT passT drainT
  cases p0 <;> cases g0 <;> cases last <;> grind
theorem camT_at {start resume long t : Int} {last : Bool} {s : WaT} : (camT start resume long t last s).at_ = t := by
  unfold camT landT; grind
theorem pot_step {full start resume long t X M D Sm : Int} {last : Bool} {s : WaT} (h : okW s) (h1 : s.at_ + s.buf ≤ X + Sm) (hM : M ≤ X) (h2 : s.buf ≤ Sm) (h3 : 0 ≤ s.at_) (ht : askT full long s ≤ t) (ht2 : t ≤ max (askT full long s) M + D) (hD : 0 ≤ D) (_ : 0 ≤ long) :
    (camT start resume long t last s).at_ + (camT start resume long t last s).buf ≤ (X + D) + (Sm + long) ∧ (camT start resume long t last s).buf ≤ Sm + long ∧ 0 ≤ (camT start resume long t last s).at_ := by
  have hb := ask_bd (full := full) (long := long) h
  have hs := ask_still (full := full) (long := long) (s := s)
  generalize askT full long s = a at *
  obtain ⟨a0, b0, p0, g0, s0, e0, l0⟩ := s
  unfold okW at h
  unfold camT landT passT drainT
  cases p0 <;> cases g0 <;> cases last <;> grind
structure FoT where
  w : WaT
  loads : List (Int × Int)
  ch : List Int
  asd : List Int
  arr : List Int
  before : Int
def FoT.zero : FoT := ⟨WaT.zero, [], [], [], [], 0⟩
section
variable (full start resume : Int) (L : List Int) (S : List (List Int)) (pk : Nat → Int → Int → List (Int × Int) → Int → Int) (av : Int → Int → Int)
def stepF (n : Nat) (f : FoT) : FoT :=
  let a := askT full (L.getD n 0) f.w
  let r := pk n a (bufT f.w a) f.loads f.before
  let z := (S.getD r.toNat []).getD n 0
  let t := av a z
  ⟨camT start resume (L.getD n 0) t (decide (n + 1 = L.length)) f.w, f.loads ++ [(z, t - a)], f.ch ++ [r], f.asd ++ [a], f.arr ++ [t], r⟩
def folF : Nat → FoT
  | 0 => FoT.zero
  | n + 1 => stepF full start resume L S pk av n (folF n)
end
section
variable {full start resume : Int} {L : List Int} {S : List (List Int)} {pk : Nat → Int → Int → List (Int × Int) → Int → Int} {av : Int → Int → Int}
def asN (full start resume : Int) (L : List Int) (S : List (List Int)) (pk : Nat → Int → Int → List (Int × Int) → Int → Int) (av : Int → Int → Int) (n : Nat) : Int := askT full (L.getD n 0) (folF full start resume L S pk av n).w
def rN (full start resume : Int) (L : List Int) (S : List (List Int)) (pk : Nat → Int → Int → List (Int × Int) → Int → Int) (av : Int → Int → Int) (n : Nat) : Int :=
  pk n (asN full start resume L S pk av n) (bufT (folF full start resume L S pk av n).w (asN full start resume L S pk av n)) (folF full start resume L S pk av n).loads (folF full start resume L S pk av n).before
def zN (full start resume : Int) (L : List Int) (S : List (List Int)) (pk : Nat → Int → Int → List (Int × Int) → Int → Int) (av : Int → Int → Int) (n : Nat) : Int := (S.getD (rN full start resume L S pk av n).toNat []).getD n 0
def tN (full start resume : Int) (L : List Int) (S : List (List Int)) (pk : Nat → Int → Int → List (Int × Int) → Int → Int) (av : Int → Int → Int) (n : Nat) : Int := av (asN full start resume L S pk av n) (zN full start resume L S pk av n)
structure RunOk (full start resume : Int) (L : List Int) (S : List (List Int)) (pk : Nat → Int → Int → List (Int × Int) → Int → Int) (av : Int → Int → Int) (M D : Int) : Prop where
  longs : ∀ i, i < L.length → 0 ≤ L.getD i 0 ∧ L.getD i 0 ≤ 1000000000
  few : L.length ≤ 200
  m0 : 0 ≤ M
  d0 : 0 ≤ D
  comes : ∀ n, n < L.length → okW (folF full start resume L S pk av n).w → 0 ≤ (folF full start resume L S pk av n).w.at_ → (folF full start resume L S pk av n).w.at_ + (folF full start resume L S pk av n).w.buf ≤ M + n * D + 200000000000 →
    (0 ≤ rN full start resume L S pk av n ∧ rN full start resume L S pk av n < S.length) ∧ asN full start resume L S pk av n ≤ tN full start resume L S pk av n ∧ tN full start resume L S pk av n ≤ max (asN full start resume L S pk av n) M + D
theorem RunOk.all {M D : Int} (h : RunOk full start resume L S pk av M D) : ∀ n, n ≤ L.length → okW (folF full start resume L S pk av n).w ∧ 0 ≤ (folF full start resume L S pk av n).w.at_ ∧
    (folF full start resume L S pk av n).w.at_ + (folF full start resume L S pk av n).w.buf ≤ (M + n * D) + 1000000000 * n ∧ (folF full start resume L S pk av n).w.buf ≤ 1000000000 * n
  | 0, _ => ⟨okW.zero, by simp [folF, FoT.zero, WaT.zero], by have := h.m0; simp [folF, FoT.zero, WaT.zero]; omega, by simp [folF, FoT.zero, WaT.zero]⟩
  | n + 1, hn => by
    obtain ⟨h1, h2, h3, h4⟩ := RunOk.all h n (by omega)
    have hf := h.few
    have hm := h.m0
    have hd := h.d0
    obtain ⟨l0, l1⟩ := h.longs n (by omega)
    obtain ⟨_, c1, c2⟩ := h.comes n (by omega) h1 h2 (by omega)
    have hk : (0 : Int) ≤ (n : Int) * D := Int.mul_nonneg (by omega) hd
    have e1 : ((n + 1 : Nat) : Int) * D = (n : Int) * D + D := by rw [Int.natCast_add, Int.add_mul]; simp
    have ok' := h1.came (start := start) (resume := resume) (last := decide (n + 1 = L.length)) l0 c1
    obtain ⟨p1, p2, p3⟩ := pot_step (start := start) (resume := resume) (last := decide (n + 1 = L.length)) (X := M + n * D) (M := M) (D := D) (Sm := 1000000000 * n) h1 h3 (by omega) h4 h2 c1 c2 hd l0
    refine ⟨ok', p3, ?_, ?_⟩
    · have : (folF full start resume L S pk av (n + 1)).w = camT start resume (L.getD n 0) (tN full start resume L S pk av n) (decide (n + 1 = L.length)) (folF full start resume L S pk av n).w := rfl
      rw [this, e1]; push_cast; omega
    · have : (folF full start resume L S pk av (n + 1)).w = camT start resume (L.getD n 0) (tN full start resume L S pk av n) (decide (n + 1 = L.length)) (folF full start resume L S pk av n).w := rfl
      rw [this]; push_cast; omega
end
end Go.Proofs.YtfelgolfebhmkaaDoor
