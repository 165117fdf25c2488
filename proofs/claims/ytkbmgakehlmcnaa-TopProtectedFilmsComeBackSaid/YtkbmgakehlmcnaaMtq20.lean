/- Several texts in one: Reading lists of numbers out of bytes, in plain words. Plain; Walks: the program's source (number, flag, end). Conditions as stated; Walks: list and runs of the program's source. Conditions as stated; Walks: appendList, runNumbers (program). Conditions as stated. -/
import Derived.Test.YtkbmgakehlmcnaaMtq19
import Derived.Test.YtkbmgakehlmcnaaMtq18
import Derived.Test.YtkbmgakehlmcnaaMtq10
import Derived.Deep.DeepCutAuto
import Derived.Test.YtkbmgakehlmcnaaMtq01
namespace Go.Proofs.Ytkbmgakehlmcnaa
open Go.RowKit
def lsH (b : List UInt8) (each : Nat) (s : Rd) : Nat × Rd :=
  if (rdN b 4 s).2.bad = true then (0, (rdN b 4 s).2)
  else if b.length - (rdN b 4 s).2.pos < (rdN b 4 s).1 * each * 8 then (0, ⟨s.pos, true⟩)
  else ((rdN b 4 s).1 * each, (rdN b 4 s).2)
def nmL (b : List UInt8) (s : Rd) : Nat → List Int × Rd
  | 0 => ([], s)
  | k + 1 => ((nmL b s k).1 ++ [IntKind.i64.wrap ((rdN b 8 (nmL b s k).2).1 : Int)], (rdN b 8 (nmL b s k).2).2)
def lsF (b : List UInt8) (each : Nat) (s : Rd) : List Int × Rd := nmL b (lsH b each s).2 (lsH b each s).1
theorem nmL_len (b : List UInt8) (s : Rd) : ∀ k, (nmL b s k).1.length = k
  | 0 => rfl
  | k + 1 => by rw [nmL]; simp [nmL_len b s k]
theorem nmL_ok {b : List UInt8} {p : Nat} {m : Nat} (h : 8 * m ≤ b.length - p) : ∀ k, k ≤ m → (nmL b ⟨p, false⟩ k).2 = ⟨p + 8 * k, false⟩
  | 0, _ => rfl
  | k + 1, hk => by
    rw [nmL, nmL_ok h k (by omega)]
    show (rdN b 8 ⟨p + 8 * k, false⟩).2 = _
    rw [rdN_ok rfl (by show 8 ≤ b.length - (p + 8 * k); omega)]
    show (⟨p + 8 * k + 8, false⟩ : Rd) = _
    rw [show p + 8 * k + 8 = p + 8 * (k + 1) by omega]
theorem lsH_cases (b : List UInt8) (each : Nat) (s : Rd) :
    ((rdN b 4 s).2.bad = true ∧ lsH b each s = (0, (rdN b 4 s).2)) ∨
    ((rdN b 4 s).2.bad = false ∧ b.length - (rdN b 4 s).2.pos < (rdN b 4 s).1 * each * 8 ∧ lsH b each s = (0, ⟨s.pos, true⟩)) ∨
    ((rdN b 4 s).2.bad = false ∧ (rdN b 4 s).1 * each * 8 ≤ b.length - (rdN b 4 s).2.pos ∧ lsH b each s = ((rdN b 4 s).1 * each, (rdN b 4 s).2)) := by
  unfold lsH
  cases hb : (rdN b 4 s).2.bad with
  | true => left; exact ⟨rfl, by rw [if_pos rfl]⟩
  | false =>
    right
    by_cases hc : b.length - (rdN b 4 s).2.pos < (rdN b 4 s).1 * each * 8
    · left; exact ⟨rfl, hc, by rw [if_neg (by simp), if_pos hc]⟩
    · right; exact ⟨rfl, by omega, by rw [if_neg (by simp), if_neg hc]⟩
theorem lsH_few (b : List UInt8) (each : Nat) (s : Rd) : (lsH b each s).1 * 8 ≤ b.length := by
  rcases lsH_cases b each s with ⟨_, h⟩ | ⟨_, _, h⟩ | ⟨_, h2, h⟩ <;> rw [h] <;> simp <;> omega
theorem lsF_len (b : List UInt8) (each : Nat) (s : Rd) : (lsF b each s).1.length = (lsH b each s).1 := nmL_len _ _ _
theorem lsF_pos {b : List UInt8} {each : Nat} {s : Rd} (h : s.pos ≤ b.length) : (lsF b each s).2.pos ≤ b.length := by
  have hp : (rdN b 4 s).2.pos ≤ b.length := rdN_pos h
  unfold lsF
  rcases lsH_cases b each s with ⟨_, h1⟩ | ⟨_, _, h1⟩ | ⟨h0, h2, h1⟩
  · rw [h1]; exact hp
  · rw [h1]; exact h
  · rw [h1]
    have e : (rdN b 4 s).2 = ⟨(rdN b 4 s).2.pos, false⟩ := by rw [← h0]
    show (nmL b (rdN b 4 s).2 ((rdN b 4 s).1 * each)).2.pos ≤ _
    generalize (rdN b 4 s).2 = q at *
    rw [e, nmL_ok (m := (rdN b 4 s).1 * each) (by omega) _ (Nat.le_refl _)]
    show q.pos + 8 * ((rdN b 4 s).1 * each) ≤ _
    omega
def prK (l : List Int) (k : Nat) : List (Int × Int) := (List.range k).map fun i => (l.getD (2 * i) 0, l.getD (2 * i + 1) 0)
def prL (l : List Int) : List (Int × Int) := prK l (l.length / 2)
theorem prK_len (l : List Int) (k : Nat) : (prK l k).length = k := by unfold prK; simp
theorem prK_succ (l : List Int) (k : Nat) : prK l (k + 1) = prK l k ++ [(l.getD (2 * k) 0, l.getD (2 * k + 1) 0)] := by unfold prK; rw [List.range_succ, List.map_append]; rfl
def r0F (b : List UInt8) : Nat × Rd := rdN b 8 ⟨0, false⟩
def r1F (b : List UInt8) : List Int × Rd := lsF b 2 (r0F b).2
def r2F (b : List UInt8) : List Int × Rd := lsF b 2 (r1F b).2
def r3F (b : List UInt8) : List Int × Rd := lsF b 1 (r2F b).2
def r4F (b : List UInt8) : Nat × Rd := rdF b 1 (r3F b).2
def hasK (b : List UInt8) : Bool := decide ((r4F b).1 = 1) && !(r4F b).2.bad
def r5F (b : List UInt8) : List Int × Rd := if hasK b = true then lsF b 1 (r4F b).2 else ([], (r4F b).2)
def r6F (b : List UInt8) : List Int × Rd := lsF b 2 (r5F b).2
def r7F (b : List UInt8) : List Int × Rd := lsF b 1 (r6F b).2
def rtE (b : List UInt8) : Rd := rdE b (r7F b).2
def rtT (b : List UInt8) : Tab := ⟨IntKind.i64.wrap ((r0F b).1 : Int), prL (r1F b).1, prL (r2F b).1, (r3F b).1, (r5F b).1, !hasK b, prL (r6F b).1, (r7F b).1⟩
def noTab : Tab := ⟨0, [], [], [], [], true, [], []⟩
def rtF (b : List UInt8) : Int := if 1000000 < b.length then 2 else if (rtE b).bad = true then 10 else 0
def rtA (b : List UInt8) : Int := if 1000000 < b.length then 0 else if (rtE b).bad = true then ((rtE b).pos : Int) else 0
def rtV (b : List UInt8) : Tab := if rtF b = 0 then rtT b else noTab
theorem r_pos (b : List UInt8) : (r0F b).2.pos ≤ b.length ∧ (r1F b).2.pos ≤ b.length ∧ (r2F b).2.pos ≤ b.length ∧ (r3F b).2.pos ≤ b.length ∧ (r4F b).2.pos ≤ b.length ∧ (r5F b).2.pos ≤ b.length ∧ (r6F b).2.pos ≤ b.length ∧ (r7F b).2.pos ≤ b.length := by
  have h0 : (r0F b).2.pos ≤ b.length := rdN_pos (Nat.zero_le _)
  have h1 : (r1F b).2.pos ≤ b.length := lsF_pos h0
  have h2 : (r2F b).2.pos ≤ b.length := lsF_pos h1
  have h3 : (r3F b).2.pos ≤ b.length := lsF_pos h2
  have h4 : (r4F b).2.pos ≤ b.length := rdF_pos h3
  have h5 : (r5F b).2.pos ≤ b.length := by
    unfold r5F; split
    · exact lsF_pos h4
    · exact h4
  have h6 : (r6F b).2.pos ≤ b.length := lsF_pos h5
  exact ⟨h0, h1, h2, h3, h4, h5, h6, lsF_pos h6⟩
theorem r_few (b : List UInt8) : (r1F b).1.length * 8 ≤ b.length ∧ (r2F b).1.length * 8 ≤ b.length ∧ (r3F b).1.length * 8 ≤ b.length ∧ (r5F b).1.length * 8 ≤ b.length ∧ (r6F b).1.length * 8 ≤ b.length ∧ (r7F b).1.length * 8 ≤ b.length := by
  have key : ∀ each s, (lsF b each s).1.length * 8 ≤ b.length := fun each s => by rw [lsF_len]; exact lsH_few b each s
  refine ⟨key _ _, key _ _, key _ _, ?_, key _ _, key _ _⟩
  unfold r5F; split
  · exact key _ _
  · simp
abbrev srcC (A : Option Addr) (n c : Nat) (s : Rd) : Array Value := #[.slice A n c, .int .i64 (s.pos : Int), .bool s.bad]
theorem At.twn {α : Type} {w w' : World} {sz : Nat} {enc : α → List Value} {A : Option Addr} {n c : Nat} {xs : List α} {o : Nat} (h : At w sz enc A n c xs) (hF : Tw w w' o none) (hne : 0 < n → ∀ a, A = some a → a.block ≠ o) : At w' sz enc A n c xs := by
  rcases Nat.eq_zero_or_pos n with h0 | h0
  · have hl := h.len
    obtain rfl : xs = [] := List.eq_nil_of_length_eq_zero (by omega)
    exact ⟨h.len, h.le, h.max, h.none_, fun k x hx => by simp at hx⟩
  · exact h.tw hF (fun a ha => ⟨hne h0 a ha, by simp⟩)
set_option linter.unusedVariables false in
set_option maxRecDepth 100000 in
set_option maxHeartbeats 4000000 in
theorem srcNumber_any {sb : Nat} {A : Option Addr} {n c k : Nat} {b : List UInt8} {s : Rd} {w : World} (hB : Blk w sb 168 (srcC A n c s)) (h : At w 1 e8 A n c b) (hne : 0 < n → ∀ a, A = some a → a.block ≠ sb) (hp : s.pos ≤ n) (hk : 1 ≤ k ∧ k ≤ 8) :
    Calls Try.prog 86 #[.pointer (some ⟨sb, 0, none⟩), .int .i64 (k : Int)] w fun e w' => e = .returned (.int .u64 ((rdN b k s).1 : Int)) ∧ Blk w' sb 168 (srcC A n c (rdN b k s).2) ∧ Tw w w' sb none := by
  obtain ⟨hk1, hk2⟩ := hk
  have hl := h.len
  have hb := h.bound
  have hle := h.le
  have hbc := h.boundc
  obtain ⟨at_, bad⟩ := s
  have hp : at_ ≤ n := hp
  have HB := hide hB
  have c0 : w.cell? ⟨sb, 0, none⟩ = some (.slice A n c) := hB.cell 0
  have c1 : w.cell? ⟨sb, 1, none⟩ = some (.int .i64 (at_ : Int)) := hB.cell 1
  have c2 : w.cell? ⟨sb, 2, none⟩ = some (.bool bad) := hB.cell 2
  have z1 : w.frozen? ⟨sb, 1, none⟩ = false := hB.frozen 1
  have z2 : w.frozen? ⟨sb, 2, none⟩ = false := hB.frozen 2
  have hsb := hB.lt
  have HL := hide hl
  have H := hide h
  have HNE := hide hne
  have d1 : IntKind.i64.wrap ((n : Int) - (at_ : Int)) = (n : Int) - (at_ : Int) := by rw [IntKind.wrap_i64]; omega
  clear hB h hl hne
  cases bad with
  | true =>
    have HR : Hid (rdN b k ⟨at_, true⟩ = (0, ⟨at_, true⟩)) := hide (rdN_bad (.inl rfl))
    go_enter Try.func86, Try.ntmps86
    go_wp2_with fail
    go_quiet (fail)
    go_wp2_with fail
    go_ret
    rw [HR.out]
    exact ⟨rfl, (HB.out.drewN _).set_ 2 _, (Tw.of_ext (Ext.drewN _ _) _ _).trans (Tw.set_ _ _ _ _ _)⟩
  | false =>
    by_cases hs : n - at_ < k
    · have HR : Hid (rdN b k ⟨at_, false⟩ = (0, ⟨at_, true⟩)) := hide (rdN_bad (.inr (by show b.length - at_ < k; have := HL.out; omega)))
      have i1 : (n : Int) - (at_ : Int) < (k : Int) := by omega
      have i2 : decide ((n : Int) - (at_ : Int) < (k : Int)) = true := by simp; omega
      clear hs
      go_enter Try.func86, Try.ntmps86
      go_wp2_with fail
      go_quiet (fail)
      go_wp2_with fail
      go_ret
      rw [HR.out]
      exact ⟨rfl, (HB.out.drewN _).set_ 2 _, (Tw.of_ext (Ext.drewN _ _) _ _).trans (Tw.set_ _ _ _ _ _)⟩
    · have HR : Hid (rdN b k ⟨at_, false⟩ = (numB (cutB b at_ (at_ + k)), ⟨at_ + k, false⟩)) := hide (rdN_ok rfl (by show k ≤ b.length - at_; have := HL.out; omega))
      have i1 : ¬ (n : Int) - (at_ : Int) < (k : Int) := by omega
      have i2 : decide ((n : Int) - (at_ : Int) < (k : Int)) = false := by simp; omega
      have d2 : IntKind.i64.wrap ((at_ : Int) + (k : Int)) = (at_ : Int) + (k : Int) := by rw [IntKind.wrap_i64]; omega
      have d3 : IntKind.i64.wrap ((at_ : Int) + (k : Int) - (k : Int)) = (at_ : Int) := by rw [IntKind.wrap_i64]; omega
      obtain ⟨A1, hr1, ha1⟩ := H.out.range_ Try.underlying28 (fun _ => by kernel_rfl) (k := at_) (m := at_ + k) (by omega) (by omega) (at_ : Int) ((at_ : Int) + (k : Int)) rfl (by omega)
      have e1 : (b.drop at_).take (at_ + k - at_) = cutB b at_ (at_ + k) := rfl
      rw [e1] at ha1
      rw [show at_ + k - at_ = k by omega] at hr1 ha1
      have HN := hide (fun (W : World) (hW : Tw w W sb none) => numberOf_any (ha1 W (H.out.twn hW HNE.out)) (by omega))
      generalize numB (cutB b at_ (at_ + k)) = v at *
      clear ha1 e1 hs
      go_enter Try.func86, Try.ntmps86
      go_wp2_with fail
      go_quiet (fail)
      go_upto_region 5 with (fail)
      refine gen_wpC fun w2 h2 => ?_
      have T2 : Hid (Tw w w2 sb none) := hide (by rw [h2]; exact (Tw.of_ext (Ext.drewN _ _) _ _).trans (Tw.set_ _ _ _ _ _))
      have B2 : Hid (Blk w2 sb 168 #[.slice A n c, .int .i64 ((at_ : Int) + (k : Int)), .bool false]) := hide (by rw [h2]; exact (HB.out.drewN _).set_ 1 _)
      have c0 : w2.cell? ⟨sb, 0, none⟩ = some (.slice A n c) := B2.out.cell 0
      have c1 : w2.cell? ⟨sb, 1, none⟩ = some (.int .i64 ((at_ : Int) + (k : Int))) := B2.out.cell 1
      clear h2
      go_quiet ((go_at_call 55; exact quiet_left (HN.out _ (T2.out.drewN _))))
      go_wp2_with fail
      go_ret
      rw [HR.out]
      exact ⟨rfl, (by have := B2.out.drewN nq; rw [← Int.natCast_add] at this; exact this), T2.out.drewN _⟩
theorem srcN {sb : Nat} {A : Option Addr} {n c : Nat} {b : List UInt8} {s : Rd} {w : World} (k : Nat) (z : Int) (hz : (k : Int) = z) (hB : Blk w sb 168 (srcC A n c s)) (h : At w 1 e8 A n c b) (hne : 0 < n → ∀ a, A = some a → a.block ≠ sb) (hp : s.pos ≤ n) (hk : 1 ≤ k ∧ k ≤ 8) :
    Calls Try.prog 86 #[.pointer (some ⟨sb, 0, none⟩), .int .i64 z] w fun e w' => e = .returned (.int .u64 ((rdN b k s).1 : Int)) ∧ Blk w' sb 168 (srcC A n c (rdN b k s).2) ∧ Tw w w' sb none := by
  rw [← hz]; exact srcNumber_any hB h hne hp hk
set_option linter.unusedVariables false in
set_option maxRecDepth 100000 in
set_option maxHeartbeats 4000000 in
theorem srcFlag_any {sb : Nat} {A : Option Addr} {n c most : Nat} {b : List UInt8} {s : Rd} {w : World} (hB : Blk w sb 168 (srcC A n c s)) (h : At w 1 e8 A n c b) (hne : 0 < n → ∀ a, A = some a → a.block ≠ sb) (hp : s.pos ≤ n) (hm : most < 256) :
    Calls Try.prog 89 #[.pointer (some ⟨sb, 0, none⟩), .int .u8 (most : Int)] w fun e w' => e = .returned (.int .u8 ((rdF b most s).1 : Int)) ∧ Blk w' sb 168 (srcC A n c (rdF b most s).2) ∧ Tw w w' sb none := by
  have hN := srcN 1 1 rfl hB h hne hp (by omega)
  have hlt := rdN_lt (b := b) (k := 1) s (by omega)
  have hlt : (rdN b 1 s).1 < 256 := by simpa using hlt
  have hF : rdF b most s = if (rdN b 1 s).2.bad = false ∧ most < (rdN b 1 s).1 then ((rdN b 1 s).1, ⟨s.pos, true⟩) else rdN b 1 s := rfl
  have c1 : w.cell? ⟨sb, 1, none⟩ = some (.int .i64 (s.pos : Int)) := hB.cell 1
  obtain ⟨r, hr⟩ : ∃ r, r = rdN b 1 s := ⟨_, rfl⟩
  rw [← hr] at hN hlt hF
  obtain ⟨v, p, bd⟩ := r
  have HN := hide hN
  have HF := hide hF
  have hlt : v < 256 := hlt
  have h256 : (v : Int) % 256 = (v : Int) := by omega
  clear hN hF hB h hr hne
  go_enter Try.func89, Try.ntmps89
  go_wp2_with fail
  with_reducible refine HN.out.mono ?_
  rintro e w1 ⟨rfl, b1, t1⟩
  have B1 := hide b1
  have T1 := hide t1
  have d2 : w1.cell? ⟨sb, 2, none⟩ = some (.bool bd) := b1.cell 2
  have z1 : w1.frozen? ⟨sb, 1, none⟩ = false := b1.frozen 1
  have z2 : w1.frozen? ⟨sb, 2, none⟩ = false := b1.frozen 2
  have d1 : w1.cell? ⟨sb, 1, none⟩ = some (.int .i64 (p : Int)) := b1.cell 1
  clear b1 t1 c1
  cases bd with
  | true =>
    have HR : Hid (rdF b most s = (v, ⟨p, true⟩)) := hide (by rw [HF.out, if_neg (by simp)])
    go_wp2_with fail
    go_ret
    rw [HR.out]
    exact ⟨rfl, B1.out, T1.out⟩
  | false =>
    by_cases hm2 : most < v
    · have HR : Hid (rdF b most s = (v, ⟨s.pos, true⟩)) := hide (by rw [HF.out, if_pos ⟨rfl, hm2⟩])
      have i1 : (most : Int) < (v : Int) := by omega
      have i2 : decide ((most : Int) < (v : Int)) = true := by simp; omega
      have i3 : decide (most < v) = true := by simp; omega
      clear hm2
      go_wp2_with fail
      go_ret
      rw [HR.out]
      exact ⟨rfl, (B1.out.set_ 1 _).set_ 2 _, (T1.out.trans (Tw.set_ _ _ _ _ _)).trans (Tw.set_ _ _ _ _ _)⟩
    · have HR : Hid (rdF b most s = (v, ⟨p, false⟩)) := hide (by rw [HF.out, if_neg (fun h => hm2 h.2)])
      have i1 : ¬ (most : Int) < (v : Int) := by omega
      have i2 : decide ((most : Int) < (v : Int)) = false := by simp; omega
      have i3 : decide (most < v) = false := by simp; omega
      clear hm2
      go_wp2_with fail
      go_ret
      rw [HR.out]
      exact ⟨rfl, B1.out, T1.out⟩
theorem srcFl {sb : Nat} {A : Option Addr} {n c : Nat} {b : List UInt8} {s : Rd} {w : World} (most : Nat) (z : Int) (hz : (most : Int) = z) (hB : Blk w sb 168 (srcC A n c s)) (h : At w 1 e8 A n c b) (hne : 0 < n → ∀ a, A = some a → a.block ≠ sb) (hp : s.pos ≤ n) (hm : most < 256) :
    Calls Try.prog 89 #[.pointer (some ⟨sb, 0, none⟩), .int .u8 z] w fun e w' => e = .returned (.int .u8 ((rdF b most s).1 : Int)) ∧ Blk w' sb 168 (srcC A n c (rdF b most s).2) ∧ Tw w w' sb none := by
  rw [← hz]; exact srcFlag_any hB h hne hp hm
set_option linter.unusedVariables false in
set_option maxRecDepth 100000 in
set_option maxHeartbeats 4000000 in
theorem srcEnd_any {sb : Nat} {A : Option Addr} {n c : Nat} {b : List UInt8} {s : Rd} {w : World} (hB : Blk w sb 168 (srcC A n c s)) (h : At w 1 e8 A n c b) :
    Calls Try.prog 90 #[.pointer (some ⟨sb, 0, none⟩)] w fun e w' => e = .returned (.bool (!(rdE b s).bad)) ∧ Blk w' sb 168 (srcC A n c (rdE b s)) ∧ Tw w w' sb none := by
  obtain ⟨at_, bad⟩ := s
  have hl := h.len
  have hb := h.bound
  have hF : rdE b ⟨at_, bad⟩ = if bad = false ∧ at_ < b.length then ⟨at_, true⟩ else ⟨at_, bad⟩ := rfl
  rw [hl] at hF
  have HB := hide hB
  have c0 : w.cell? ⟨sb, 0, none⟩ = some (.slice A n c) := hB.cell 0
  have c1 : w.cell? ⟨sb, 1, none⟩ = some (.int .i64 (at_ : Int)) := hB.cell 1
  have c2 : w.cell? ⟨sb, 2, none⟩ = some (.bool bad) := hB.cell 2
  have z2 : w.frozen? ⟨sb, 2, none⟩ = false := hB.frozen 2
  have HF := hide hF
  clear hB h hl hF
  cases bad with
  | true =>
    have HR : Hid (rdE b ⟨at_, true⟩ = ⟨at_, true⟩) := hide (by rw [HF.out, if_neg (by simp)])
    go_enter Try.func90, Try.ntmps90
    go_wp2_with fail
    go_quiet (fail)
    go_wp2_with fail
    go_ret
    rw [HR.out]
    exact ⟨rfl, HB.out.drewN _, Tw.of_ext (Ext.drewN _ _) _ _⟩
  | false =>
    by_cases hs : at_ < n
    · have HR : Hid (rdE b ⟨at_, false⟩ = ⟨at_, true⟩) := hide (by rw [HF.out, if_pos ⟨rfl, hs⟩])
      have i1 : (at_ : Int) < (n : Int) := by omega
      have i2 : decide ((at_ : Int) < (n : Int)) = true := by simp; omega
      have i3 : decide (at_ < n) = true := by simp; omega
      clear hs
      go_enter Try.func90, Try.ntmps90
      go_wp2_with fail
      go_quiet (fail)
      go_wp2_with fail
      go_ret
      rw [HR.out]
      exact ⟨rfl, (HB.out.drewN _).set_ 2 _, (Tw.of_ext (Ext.drewN _ _) _ _).trans (Tw.set_ _ _ _ _ _)⟩
    · have HR : Hid (rdE b ⟨at_, false⟩ = ⟨at_, false⟩) := hide (by rw [HF.out, if_neg (fun h => hs h.2)])
      have i1 : ¬ (at_ : Int) < (n : Int) := by omega
      have i2 : decide ((at_ : Int) < (n : Int)) = false := by simp; omega
      have i3 : decide (at_ < n) = false := by simp; omega
      clear hs
      go_enter Try.func90, Try.ntmps90
      go_wp2_with fail
      go_quiet (fail)
      go_wp2_with fail
      go_ret
      rw [HR.out]
      exact ⟨rfl, HB.out.drewN _, Tw.of_ext (Ext.drewN _ _) _ _⟩
theorem Try.info3 : (Try.prog.info? 3).map (fun i => (i.zero, i.size, i.bytes)) = some (some (.int .i64 0), 1, 8) := by kernel_rfl
def LsGives (w : World) (sb : Nat) (A : Option Addr) (n c : Nat) (r : List Int × Rd) (e : Ending) (w' : World) : Prop :=
  ∃ T k tc, e = .returned (.slice T k tc) ∧ At w' 1 e64 T k tc r.1 ∧ Blk w' sb 168 (srcC A n c r.2) ∧ Tw w w' sb none ∧ ∀ a, T = some a → w.heap.size ≤ a.block
set_option linter.unusedVariables false in
set_option maxRecDepth 100000 in
set_option maxHeartbeats 8000000 in
theorem srcList_any {sb : Nat} {A : Option Addr} {n c each : Nat} {z : Int} {b : List UInt8} {s : Rd} {w : World} (hB : Blk w sb 168 (srcC A n c s)) (h : At w 1 e8 A n c b) (hne : 0 < n → ∀ a, A = some a → a.block ≠ sb) (hp : s.pos ≤ n) (hz : (each : Int) = z) (he : 1 ≤ each ∧ each ≤ 2) :
    Calls Try.prog 88 #[.pointer (some ⟨sb, 0, none⟩), .int .i64 z] w (LsGives w sb A n c (lsF b each s)) := by
  have hl := h.len
  have hbd := h.bound
  have HB := hide hB
  have H := hide h
  have HL := hide hl
  have HNE := hide hne
  have hsb := hB.lt
  obtain ⟨i0_, hi0, hz0, hz1, hz2⟩ := info_parts Try.info3
  have HC4 := hide (srcN 4 4 rfl hB h hne hp (by omega))
  have HNM := hide (fun (W : World) (q : Rd) (hR : Blk W sb 168 (srcC A n c q)) (hT : Tw w W sb none) (hq : q.pos ≤ n) => srcN 8 8 rfl hR (h.twn hT hne) hne hq (by omega))
  have hv : (rdN b 4 s).1 < 4294967296 := rdN_lt (b := b) (k := 4) s (by omega)
  have hqp : (rdN b 4 s).2.pos ≤ n := by have := rdN_pos (b := b) (k := 4) (s := s) (by omega); omega
  have HLC := hide (lsH_cases b each s)
  have hx1 : w.cell? ⟨sb, 1, none⟩ = some (.int .i64 (s.pos : Int)) := hB.cell 1
  clear hB h hne
  generalize hr : rdN b 4 s = r at *
  obtain ⟨v, qp, qb⟩ := r
  simp only at hv hqp HLC HC4
  clear hr
  go_enter Try.func88, Try.ntmps88
  go_wp2_with fail
  with_reducible refine HC4.out.mono ?_
  rintro e w3 ⟨rfl, b3, t3⟩
  have B3 := hide b3
  have T3 := hide t3
  have u0 : IntKind.i64.wrap (v : Int) = (v : Int) := by rw [IntKind.wrap_i64]; omega
  have x0 : w3.cell? ⟨sb, 0, none⟩ = some (.slice A n c) := b3.cell 0
  have x1 : w3.cell? ⟨sb, 1, none⟩ = some (.int .i64 (qp : Int)) := b3.cell 1
  have x2 : w3.cell? ⟨sb, 2, none⟩ = some (.bool qb) := b3.cell 2
  have z1 : w3.frozen? ⟨sb, 1, none⟩ = false := b3.frozen 1
  have z2 : w3.frozen? ⟨sb, 2, none⟩ = false := b3.frozen 2
  obtain ⟨m, hm⟩ : ∃ m, m = v * each := ⟨_, rfl⟩
  have hmb : m ≤ 8589934592 := by
    have : v * each ≤ v * 2 := Nat.mul_le_mul_left _ he.2
    omega
  rw [← hm] at HLC
  have hmi : (v : Int) * z = (m : Int) := by rw [hm, ← hz]; push_cast; rfl
  have u1 : IntKind.i64.wrap ((v : Int) * z) = (m : Int) := by rw [hmi, IntKind.wrap_i64]; omega
  have u2 : IntKind.i64.wrap ((m : Int) * 8) = (m : Int) * 8 := by rw [IntKind.wrap_i64]; omega
  have u3 : IntKind.i64.wrap ((n : Int) - (qp : Int)) = (n : Int) - (qp : Int) := by rw [IntKind.wrap_i64]; omega
  have hsz3 := t3.size
  clear b3 t3 hx1 HC4 HB hm hz he
  go_upto_region 3 with (fail)
  go_cut [36] (fun sv wx => sv = .bool (decide (qb = false ∧ n - qp < m * 8)) ∧ w3.drew = wx)
  case first =>
    cases qb with
    | true =>
      go_region
      go_wp2_with fail
      go_meet
      exact ⟨by simp, by first | rfl | trivial⟩
    | false =>
      have HD : Hid (decide ((false = false) ∧ n - qp < m * 8) = decide ((n : Int) - (qp : Int) < (m : Int) * 8)) := hide (by rw [decide_eq_decide]; simp; omega)
      go_region
      go_wp2_with fail
      go_meet
      exact ⟨by rw [HD.out], by first | rfl | trivial⟩
  case rest =>
  obtain ⟨rfl, hw⟩ := hcut
  have B4 : Hid (Blk wc sb 168 (srcC A n c ⟨qp, qb⟩)) := hide (by rw [← hw]; exact B3.out.drew)
  have T4 : Hid (Tw w wc sb none) := hide (by rw [← hw]; exact T3.out.drew)
  have x1 : wc.cell? ⟨sb, 1, none⟩ = some (.int .i64 (qp : Int)) := B4.out.cell 1
  have x2 : wc.cell? ⟨sb, 2, none⟩ = some (.bool qb) := B4.out.cell 2
  have z1 : wc.frozen? ⟨sb, 1, none⟩ = false := B4.out.frozen 1
  have z2 : wc.frozen? ⟨sb, 2, none⟩ = false := B4.out.frozen 2
  clear hw B3 T3 x0
  go_upto_if 36 with (fail)
  go_cut [] (fun wx => Hid (Blk wx sb 168 (srcC A n c (lsH b each s).2)) ∧ Hid (Tw w wx sb none))
  case first =>
    cases hd : decide (qb = false ∧ n - qp < m * 8) with
    | true =>
      have hd2 := of_decide_eq_true hd
      have HE : Hid ((lsH b each s).2 = ⟨s.pos, true⟩) := hide (by
        have h9 := HL.out
        rcases HLC.out with ⟨g1, _⟩ | ⟨_, _, g3⟩ | ⟨_, g2, _⟩
        · rw [hd2.1] at g1; cases g1
        · rw [g3]
        · exfalso; have := hd2.2; omega)
      have x2f : wc.cell? ⟨sb, 2, none⟩ = some (.bool false) := by rw [← hd2.1]; exact x2
      clear hd hd2 x2
      go_wp2_with fail
      go_meet
      exact ⟨hide (by rw [HE.out]; exact (B4.out.set_ 1 _).set_ 2 _), hide ((T4.out.trans (Tw.set_ _ _ _ _ _)).trans (Tw.set_ _ _ _ _ _))⟩
    | false =>
      have hd2 := of_decide_eq_false hd
      have HE : Hid ((lsH b each s).2 = ⟨qp, qb⟩) := hide (by
        have h9 := HL.out
        rcases HLC.out with ⟨_, g3⟩ | ⟨g1, g2, _⟩ | ⟨_, _, g3⟩
        · rw [g3]
        · exact absurd ⟨g1, by omega⟩ hd2
        · rw [g3])
      clear hd hd2
      go_wp2_with fail
      go_meet
      exact ⟨hide (by rw [HE.out]; exact B4.out), T4⟩
  case rest =>
  obtain ⟨B5, T5⟩ := hcut
  clear B4 T4 x1 x2 z1 z2
  have HLS : Hid (lsF b each s = nmL b (lsH b each s).2 (lsH b each s).1) := hide rfl
  have HBK : Hid ((lsH b each s).2.bad = true → (lsH b each s).1 = 0) := hide (fun hb => by
    rcases HLC.out with ⟨_, g3⟩ | ⟨_, _, g3⟩ | ⟨g1, _, g3⟩
    · rw [g3]
    · rw [g3]
    · rw [g3] at hb; have hb : qb = true := hb; have g1 : qb = false := g1; rw [g1] at hb; cases hb)
  have HOK : Hid ((lsH b each s).2.bad = false → (lsH b each s).1 = m ∧ (lsH b each s).2.pos ≤ n ∧ 8 * m ≤ b.length - (lsH b each s).2.pos) := hide (fun hb => by
    rcases HLC.out with ⟨g1, g3⟩ | ⟨_, _, g3⟩ | ⟨_, g2, g3⟩
    · rw [g3] at hb; have hb : qb = false := hb; have g1 : qb = true := g1; rw [g1] at hb; cases hb
    · rw [g3] at hb; cases hb
    · rw [g3]; exact ⟨rfl, hqp, by show 8 * m ≤ b.length - qp; have g2 : m * 8 ≤ b.length - qp := g2; omega⟩)
  generalize hq : lsH b each s = q at *
  obtain ⟨cnt, hp5, hb5⟩ := q
  simp only at B5 HLS HBK HOK
  clear hq HLC
  have y2 : wc.cell? ⟨sb, 2, none⟩ = some (.bool hb5) := B5.out.cell 2
  cases hb5 with
  | true =>
    have h0 := HBK.out rfl
    subst h0
    go_wp2_with fail
    go_ret
    rw [HLS.out]
    exact ⟨none, 0, 0, rfl, At.nil _ _ _, B5.out, T5.out, fun a ha => by cases ha⟩
  | false =>
    obtain ⟨hcm, hpn, hfit⟩ := HOK.out rfl
    subst hcm
    have HFIT := hide hfit
    have hpn5 := hpn
    clear HOK HBK
    go_wp2_with fail
    go_loopw [7, 51] (fun r7 ri wr => ∃ k : Nat, k ≤ cnt ∧ ri = .int .i64 k ∧ Hid (Own wr w.heap.size 3 1 e64 r7 (nmL b ⟨hp5, false⟩ k).1) ∧ Hid (Blk wr sb 168 (srcC A n c (nmL b ⟨hp5, false⟩ k).2)) ∧ Hid (Tw w wr sb none)) (fun _ ri _ => cnt - (intOf ri).toNat)
    case atStart => exact ⟨0, by omega, rfl, hide (Own.nil _ _ _ _ _), B5, T5⟩
    case round =>
      obtain ⟨k, hk, rfl, HO, HR, HT⟩ := hrel
      by_cases hlt : k < cnt
      · have hst := nmL_ok HFIT.out k hk
        have HSU : Hid ((nmL b ⟨hp5, false⟩ (k + 1)).1 = (nmL b ⟨hp5, false⟩ k).1 ++ [IntKind.i64.wrap ((rdN b 8 (nmL b ⟨hp5, false⟩ k).2).1 : Int)] ∧ (nmL b ⟨hp5, false⟩ (k + 1)).2 = (rdN b 8 (nmL b ⟨hp5, false⟩ k).2).2) := hide ⟨rfl, rfl⟩
        have hlk : (nmL b ⟨hp5, false⟩ k).1.length = k := nmL_len _ _ _
        have i8 : IntKind.i64.wrap ((k : Int) + 1) = (k : Int) + 1 := by rw [IntKind.wrap_i64]; omega
        have i1 : (k : Int) < (cnt : Int) := by omega
        have S1 : Hid ((nmL b ⟨hp5, false⟩ k).1.length + 1 ≤ maxLen) := hide (by rw [hlk]; unfold maxLen; omega)
        have S2 : Hid (((nmL b ⟨hp5, false⟩ k).1.length + 1) * 8 ≤ 140737488355328) := hide (by rw [hlk]; omega)
        have HRL := HO.out.lt
        have HNR : Hid (∀ g, u7.ownBlock = some g → w.heap.size ≤ g ∧ g ≠ sb) := hide (fun g hg => ⟨(HRL g hg).1, by have := (HRL g hg).1; omega⟩)
        have HN8 := hide (HNM.out _ _ HR.out HT.out (by rw [hst]; show hp5 + 8 * k ≤ n; have := HL.out; have := HFIT.out; omega))
        obtain ⟨xv, hxv⟩ : ∃ xv, xv = IntKind.i64.wrap ((rdN b 8 (nmL b ⟨hp5, false⟩ k).2).1 : Int) := ⟨_, rfl⟩
        rw [← hxv] at HSU
        have ux : IntKind.i64.wrap ((rdN b 8 (nmL b ⟨hp5, false⟩ k).2).1 : Int) = xv := hxv.symm
        clear hst hlk HRL hxv
        go_wp2_with fail
        with_reducible refine HN8.out.mono ?_
        rintro e w6 ⟨rfl, b6, t6⟩
        have R6 := hide b6
        have T6 := hide (HT.out.trans t6)
        have O6 := hide (HO.out.tw t6 (fun e => (HNR.out sb e).2 rfl) (fun g _ e => by cases e))
        have S3 : Hid (w.heap.size ≤ (w6.alloc (.cells #[.int .i64 xv] 3)).heap.size) := hide (by have := T6.out.size; rw [World.size_alloc]; omega)
        clear b6 t6 HN8
        go_wp2_with (at_builtin; refine wpList_append_at _ rfl (.tmp 53) (.tmp 57) 79 rfl w.heap.size 3 i0_ _ 8 Try.underlying79 hi0 hz0 hz1 hz2 rfl (by omega) len_e64 one_e64 _ _ (by rfl) (O6.out.ext (Ext.alloc _ _)) (some ⟨w6.heap.size, 0, none⟩) 1 1 [xv] (by rfl) (At.new1 w6 xv _ rfl _) S1.out S2.out S3.out ?_; intro v7 w7 o7 g7 _ _; have O7 := hide o7; have G7 := hide g7; clear o7 g7)
        exact ⟨⟨k + 1, by omega, by go_num, hide (by rw [HSU.out.1]; exact O7.out), hide (by rw [HSU.out.2]; exact (R6.out.ext (Ext.alloc _ _)).grown G7.out (fun e => (HNR.out sb e.symm).2 rfl)), hide ((T6.out.trans (Tw.of_ext (Ext.alloc _ _) _ _)).row G7.out (fun g hg => .inl (HNR.out g hg).1))⟩, by simp [intOf]; omega⟩
      · obtain rfl : k = cnt := by omega
        obtain ⟨vA, vc, hv, hat⟩ := HO.out.at_ len_e64
        have HAT := hide hat
        have HLT := HO.out.lt
        subst hv
        clear hlt hat
        go_wp2_with fail
        go_ret
        rw [HLS.out]
        exact ⟨_, _, _, rfl, HAT.out, HR.out, HT.out, fun a ha => by subst ha; exact (HLT a.block rfl).1⟩
def u64N (x : Int) : Nat := (IntKind.u64.wrap x).toNat
def lsB (l : List Int) : List UInt8 := l.flatMap fun x => beN 8 (u64N x)
def liB (many : Nat) (l : List Int) : List UInt8 := beN 4 many ++ lsB l
def rnN (l : List (Int × Int)) : List Int := l.flatMap fun r => [r.1, r.2]
theorem u64N_cast (x : Int) : ((u64N x : Nat) : Int) = IntKind.u64.wrap x := by unfold u64N; rw [IntKind.wrap_u64]; omega
theorem u64N_lt (x : Int) : u64N x < 18446744073709551616 := by unfold u64N; rw [IntKind.wrap_u64]; omega
theorem lsB_len (l : List Int) : (lsB l).length = 8 * l.length := by
  induction l with
  | nil => rfl
  | cons x xs ih => unfold lsB at ih ⊢; rw [List.flatMap_cons, List.length_append, ih, List.length_cons, beN_len]; omega
theorem lsB_take {l : List Int} {k : Nat} (h : k < l.length) : lsB (l.take (k + 1)) = lsB (l.take k) ++ beN 8 (u64N (l.getD k 0)) := by
  unfold lsB; rw [getD_take l k 0 h, List.flatMap_append]; simp
theorem rnN_len (l : List (Int × Int)) : (rnN l).length = 2 * l.length := by
  induction l with
  | nil => rfl
  | cons x xs ih => unfold rnN at ih ⊢; rw [List.flatMap_cons, List.length_append, ih, List.length_cons]; simp; omega
theorem rnN_take {l : List (Int × Int)} {k : Nat} (h : k < l.length) : rnN (l.take (k + 1)) = rnN (l.take k) ++ [(l.getD k (0, 0)).1, (l.getD k (0, 0)).2] := by
  unfold rnN; rw [getD_take l k (0, 0) h, List.flatMap_append]; simp
theorem At.newI2 (w : World) (x y : Int) (t : TypeId) : At (w.alloc (.cells #[.int .i64 x, .int .i64 y] t)) 1 e64 (some ⟨w.heap.size, 0, none⟩) 2 2 [x, y] :=
  ⟨rfl, Nat.le_refl _, by unfold maxLen; omega, fun h => (by cases h), fun k z hz => ⟨_, _, rfl, fun j u hu => by
    have hb := Blk.new w t #[.int .i64 x, .int .i64 y]
    match k, hz with
    | 0, hz =>
      simp at hz; subst hz
      match j, hu with
      | 0, hu => simp at hu; subst hu; exact hb.cell 0
      | j + 1, hu => simp at hu
    | 1, hz =>
      simp at hz; subst hz
      match j, hu with
      | 0, hu => simp at hu; subst hu; exact hb.cell 1
      | j + 1, hu => simp at hu
    | k + 2, hz => simp at hz⟩⟩
set_option linter.unusedVariables false in
set_option maxRecDepth 100000 in
set_option maxHeartbeats 4000000 in
structure Grw (w w' : World) (v v' : Value) : Prop where
  grown : w.grownBy w' v.ownBlock
  row : v'.ownBlock = v.ownBlock ∨ ∃ g, v'.ownBlock = some g ∧ w.heap.size ≤ g
theorem Grw.refl (w : World) (v : Value) : Grw w w v v := ⟨World.grownBy.refl w _, .inl rfl⟩
theorem Grw.trans {a b c : World} {u v x : Value} (h : Grw a b u v) (k : Grw b c v x) : Grw a c u x := by
  refine ⟨⟨k.grown.os.trans h.grown.os, k.grown.tape.trans h.grown.tape, k.grown.output.trans h.grown.output, Nat.le_trans h.grown.size k.grown.size, fun q hq hr => (k.grown.block q (Nat.lt_of_lt_of_le hq h.grown.size) (fun e => ?_)).trans (h.grown.block q hq hr)⟩, ?_⟩
  · rcases h.row with h1 | ⟨g, h1, h2⟩
    · exact hr (e.trans h1)
    · rw [h1] at e; have := Option.some.inj e; omega
  · rcases k.row with h1 | ⟨g, h1, h2⟩
    · rcases h.row with h3 | ⟨g, h3, h4⟩
      · exact .inl (h1.trans h3)
      · exact .inr ⟨g, h1.trans h3, h4⟩
    · exact .inr ⟨g, h1, Nat.le_trans h.grown.size h2⟩
theorem Grw.ahead {a b c : World} {u v : Value} (h : Ext a b) (k : Grw b c u v) : Grw a c u v :=
  ⟨⟨k.grown.os.trans h.os, k.grown.tape.trans h.tape, k.grown.output.trans h.output, Nat.le_trans h.size k.grown.size, fun q hq hr => (k.grown.block q (Nat.lt_of_lt_of_le hq h.size) hr).trans (h.block q hq)⟩, by
    rcases k.row with h1 | ⟨g, h1, h2⟩
    · exact .inl h1
    · exact .inr ⟨g, h1, Nat.le_trans h.size h2⟩⟩
theorem Grw.of {w w' : World} {v v' : Value} (hg : w.grownBy w' v.ownBlock) (hr : v'.ownBlock = v.ownBlock ∨ v'.ownBlock = some w.heap.size) : Grw w w' v v' :=
  ⟨hg, by rcases hr with h | h
          · exact .inl h
          · exact .inr ⟨_, h, Nat.le_refl _⟩⟩
theorem At.grow {α : Type} {w w' : World} {sz : Nat} {enc : α → List Value} {A : Option Addr} {n c : Nat} {xs : List α} {row : Option Nat} (h : At w sz enc A n c xs) (hg : w.grownBy w' row) (hr : ∀ a, A = some a → some a.block ≠ row) : At w' sz enc A n c xs :=
  ⟨h.len, h.le, h.max, h.none_, fun k x hx => by
    obtain ⟨b, off, e, hc⟩ := h.cells k x hx
    have h2 := hr _ e
    refine ⟨b, off, e, fun j u hu => ?_⟩
    have h3 := hc j u hu
    have h4 := hg.block b (by have := cell_lt h3; simpa using this) h2
    unfold World.cell? at h3 ⊢
    simp only at h3 ⊢
    rw [h4]
    exact h3⟩
def GrGives (w : World) (base : Nat) (v : Value) (l : List UInt8) (e : Ending) (w' : World) : Prop := ∃ v', e = .returned v' ∧ Own w' base 5 1 e8 v' l ∧ Grw w w' v v'
set_option linter.unusedVariables false in
set_option maxRecDepth 100000 in
set_option maxHeartbeats 2000000 in
theorem appendNumberG {w : World} {base many n : Nat} {z : Int} {v : Value} {l : List UInt8} (ho : Own w base 5 1 e8 v l) (hbw : base ≤ w.heap.size) (hz : (many : Int) = z) (hm : many ≤ 8) (hn : n < 18446744073709551616) (hl : l.length ≤ 1000000000) :
    Calls Try.prog 47 #[v, .int .u64 (n : Int), .int .i64 z] w (GrGives w base v (l ++ beN many n)) := by
  subst hz
  have HO := hide ho
  clear ho
  go_enter Try.func47, Try.ntmps47
  go_wp2_with fail
  go_loopw [0, 7] (fun r0 r7 wr => ∃ k : Nat, k ≤ many ∧ r7 = .int .i64 ((k : Int) - 1) ∧ Hid (Own wr base 5 1 e8 r0 (l ++ beN (many - k) (n / 256 ^ k))) ∧ Hid (Grw w wr v r0) ∧ Hid (base ≤ wr.heap.size)) (fun _ r7 _ => ((intOf r7) + 1).toNat)
  case atStart => exact ⟨many, by omega, by go_num, hide (by rw [Nat.sub_self]; simpa [beN] using HO.out), hide (Grw.refl _ _), hide hbw⟩
  case round =>
    obtain ⟨k, hk, rfl, HK, HX, HBW⟩ := hrel
    by_cases h0 : 0 < k
    · obtain ⟨j, rfl⟩ : ∃ j, k = j + 1 := ⟨k - 1, by omega⟩
      have e1 : ((j + 1 : Nat) : Int) - 1 = (j : Int) := by omega
      rw [e1]
      have i1 : (0 : Int) ≤ (j : Int) := by omega
      have i2 : IntKind.i64.wrap (8 * (j : Int)) = 8 * (j : Int) := by rw [IntKind.wrap_i64]; omega
      have HU : Hid (e8 (UInt8.ofNat (n / 256 ^ j)) = [.int .u8 ((n : Int) / 2 ^ (8 * j) % 256)]) := hide (e8_byte n j)
      have HL : Hid ((l ++ beN (many - (j + 1)) (n / 256 ^ (j + 1))).length + 1 ≤ maxLen) := hide (by rw [List.length_append, beN_len]; unfold maxLen; omega)
      have HL2 : Hid (((l ++ beN (many - (j + 1)) (n / 256 ^ (j + 1))).length + 1) * 1 ≤ 140737488355328) := hide (by rw [List.length_append, beN_len]; omega)
      have HB2 : Hid (base ≤ (wr.alloc (.cells #[.int .u8 ((n : Int) / 2 ^ (8 * j) % 256)] 5)).heap.size) := hide (by rw [World.size_alloc]; have := HBW.out; omega)
      have HE2 : Hid (l ++ beN (many - (j + 1)) (n / 256 ^ (j + 1)) ++ [UInt8.ofNat (n / 256 ^ j)] = l ++ beN (many - j) (n / 256 ^ j)) := hide (by rw [beN_step n j many (by omega), List.append_assoc])
      obtain ⟨i0_, hi0, hz0, hz1, hz2⟩ := info_parts Try.info5
      clear e1
      go_wp2_with (at_builtin; refine wpList_append_at _ rfl (.tmp 14) (.tmp 20) 28 rfl base 5 i0_ _ 1 Try.underlying28 hi0 hz0 hz1 hz2 rfl (by omega) len_e8 one_e8 u0 _ (by rfl) (HK.out.ext (Ext.alloc _ _)) (some ⟨wr.heap.size, 0, none⟩) 1 1 [UInt8.ofNat (n / 256 ^ j)] (by rfl) (At.new1 wr _ _ HU.out _) HL.out HL2.out HB2.out ?_; intro v7 w7 o7 g7 _ r7; have O7 := hide o7; have G7 := hide g7; have R7 := hide r7; clear o7 g7 r7)
      exact ⟨⟨j, by omega, by go_num, hide (by rw [← HE2.out]; exact O7.out), hide (HX.out.trans (Grw.ahead (Ext.alloc _ _) (Grw.of G7.out R7.out))), hide (by have := G7.out.size; have := HB2.out; omega)⟩, by simp [intOf]⟩
    · obtain rfl : k = 0 := by omega
      have HV : Hid (l ++ beN (many - 0) (n / 256 ^ 0) = l ++ beN many n) := hide (by simp)
      have i1 : ¬ (0 : Int) ≤ ((0 : Nat) : Int) - 1 := by omega
      have e1 : ((0 : Nat) : Int) - 1 = -1 := by omega
      rw [e1] at i1 ⊢
      clear e1
      go_wp2_with fail
      go_ret
      exact ⟨_, rfl, by rw [← HV.out]; exact HK.out, HX.out⟩
set_option linter.unusedVariables false in
set_option maxRecDepth 100000 in
set_option maxHeartbeats 4000000 in
theorem appendList_any {w : World} {base many : Nat} {v : Value} {l : List UInt8} {A : Option Addr} {n c : Nat} {ns : List Int} (ho : Own w base 5 1 e8 v l) (hbw : base ≤ w.heap.size) (h : At w 1 e64 A n c ns) (hlo : 0 < n → ∀ a, A = some a → some a.block ≠ v.ownBlock) (hmn : many ≤ 1000000) (hn : n ≤ 1000000) (hl : l.length ≤ 100000000) :
    Calls Try.prog 70 #[v, .int .i64 (many : Int), .slice A n c] w (GrGives w base v (l ++ liB many ns)) := by
  have H := hide h
  have HNL := hide h.len
  have HLO := hide hlo
  have HAN := hide (appendNumberG (n := many) (many := 4) (z := 4) ho hbw rfl (by omega) (by omega) (by omega))
  have u0 : IntKind.u64.wrap (many : Int) = (many : Int) := by rw [IntKind.wrap_u64]; omega
  clear ho h hlo
  go_enter Try.func70, Try.ntmps70
  go_wp2_with fail
  with_reducible refine HAN.out.mono ?_
  rintro e w1 ⟨v1, rfl, o1, g1⟩
  have O1 := hide o1
  have G1 := hide g1
  have hbw1 : base ≤ w1.heap.size := Nat.le_trans hbw g1.grown.size
  clear o1 g1 HAN
  go_wp2_with fail
  go_loopw [0, 15] (fun r0 ri wr => ∃ k : Nat, k ≤ n ∧ ri = .int .i64 k ∧ Hid (Own wr base 5 1 e8 r0 (l ++ beN 4 many ++ lsB (ns.take k))) ∧ Hid (Grw w wr v r0)) (fun _ ri _ => n - (intOf ri).toNat)
  case atStart => exact ⟨0, by omega, rfl, hide (by simpa [lsB] using O1.out), G1⟩
  case round =>
    obtain ⟨k, hk, rfl, HO, HX⟩ := hrel
    have hbwr : base ≤ wr.heap.size := Nat.le_trans hbw HX.out.grown.size
    by_cases hlt : k < n
    · obtain ⟨b, off, rfl, _⟩ := H.out.addr (by omega)
      have a0 := (H.out.grow HX.out.grown (HLO.out (by omega))).num hlt
      have HSU : Hid (l ++ beN 4 many ++ lsB (ns.take (k + 1)) = l ++ beN 4 many ++ lsB (ns.take k) ++ beN 8 (u64N (ns.getD k 0))) := hide (by rw [lsB_take (by have := HNL.out; omega)]; simp only [List.append_assoc])
      have hlk : (l ++ beN 4 many ++ lsB (ns.take k)).length ≤ 1000000000 := by rw [List.length_append, List.length_append, beN_len, lsB_len, List.length_take]; omega
      have HA8 := hide (appendNumberG (n := u64N (ns.getD k 0)) (many := 8) (z := 8) HO.out hbwr rfl (by omega) (u64N_lt _) hlk)
      have ux := (u64N_cast (ns.getD k 0)).symm
      generalize ns.getD k 0 = x at *
      have i1 : (k : Int) < (n : Int) := by omega
      have i0 : (0 : Int) ≤ (k : Int) := by omega
      have i8 : IntKind.i64.wrap ((k : Int) + 1) = (k : Int) + 1 := by rw [IntKind.wrap_i64]; omega
      clear hlk
      go_wp2_with fail
      with_reducible refine HA8.out.mono ?_
      rintro e w2 ⟨v2, rfl, o2, g2⟩
      have O2 := hide o2
      have G2 := hide g2
      clear o2 g2
      go_wp2_with fail
      exact ⟨⟨k + 1, by omega, by go_num, hide (by rw [HSU.out]; exact O2.out), hide (HX.out.trans G2.out)⟩, by simp [intOf]; omega⟩
    · obtain rfl : k = n := by omega
      have HV : Hid (l ++ beN 4 many ++ lsB (ns.take k) = l ++ liB many ns) := hide (by unfold liB; rw [List.take_of_length_le (by have := HNL.out; omega), List.append_assoc])
      clear hlt
      go_wp2_with fail
      go_ret
      exact ⟨_, rfl, by rw [← HV.out]; exact HO.out, HX.out⟩
set_option linter.unusedVariables false in
set_option maxRecDepth 100000 in
set_option maxHeartbeats 4000000 in
theorem runNumbers_any {A : Option Addr} {n c : Nat} {l : List (Int × Int)} {w : World} (h : At w 2 e2 A n c l) (hn : n ≤ 1000000) :
    Calls Try.prog 71 #[.slice A n c] w fun e w' => ∃ T k tc, e = .returned (.slice T k tc) ∧ At w' 1 e64 T k tc (rnN l) ∧ Ext w w' ∧ ∀ a, T = some a → w.heap.size ≤ a.block := by
  have H := hide h
  have HL := hide h.len
  obtain ⟨i0_, hi0, hz0, hz1, hz2⟩ := info_parts Try.info3
  clear h
  go_enter Try.func71, Try.ntmps71
  go_wp2_with fail
  go_loopw [3, 8] (fun r3 ri wr => ∃ k : Nat, k ≤ n ∧ ri = .int .i64 k ∧ Hid (Own wr w.heap.size 3 1 e64 r3 (rnN (l.take k))) ∧ Hid (Ext w wr)) (fun _ ri _ => n - (intOf ri).toNat)
  case atStart => exact ⟨0, by omega, rfl, hide (by simpa [rnN] using Own.nil _ _ _ _ _), hide (Ext.refl _)⟩
  case round =>
    obtain ⟨k, hk, rfl, HO, HX⟩ := hrel
    by_cases hlt : k < n
    · obtain ⟨b, off, rfl, _⟩ := H.out.addr (by omega)
      obtain ⟨a0, a1⟩ := (H.out.ext HX.out).pair hlt
      have HSU : Hid (rnN (l.take (k + 1)) = rnN (l.take k) ++ [(l.getD k (0, 0)).1, (l.getD k (0, 0)).2]) := hide (rnN_take (by have := HL.out; omega))
      generalize (l.getD k (0, 0)).1 = x at *
      generalize (l.getD k (0, 0)).2 = y at *
      have hlk : (rnN (l.take k)).length = 2 * k := by rw [rnN_len, List.length_take]; have := HL.out; omega
      have i1 : (k : Int) < (n : Int) := by omega
      have i0 : (0 : Int) ≤ (k : Int) := by omega
      have i8 : IntKind.i64.wrap ((k : Int) + 1) = (k : Int) + 1 := by rw [IntKind.wrap_i64]; omega
      have S1 : Hid ((rnN (l.take k)).length + 2 ≤ maxLen) := hide (by rw [hlk]; unfold maxLen; omega)
      have S2 : Hid (((rnN (l.take k)).length + 2) * 8 ≤ 140737488355328) := hide (by rw [hlk]; omega)
      clear hlk
      go_upto_region 5 with (fail)
      refine gen_wpC fun w5 h5 => ?_
      have F5 : Hid (Ext wr w5) := hide (by rw [h5]; exact Ext.alloc _ _)
      have y0 : w5.cell? ⟨wr.heap.size, 0, none⟩ = some (.int .i64 x) := by rw [h5]; exact (Blk.new wr _ _).cell 0
      have y1 : w5.cell? ⟨wr.heap.size, 1, none⟩ = some (.int .i64 y) := by rw [h5]; exact (Blk.new wr _ _).cell 1
      have S3 : Hid (w.heap.size ≤ (w5.alloc (.cells #[.int .i64 x, .int .i64 y] 3)).heap.size) := hide (by have := (Ext.trans HX.out F5.out).size; rw [World.size_alloc]; omega)
      clear h5 a0 a1
      go_wp2_with (at_builtin; refine wpList_append_at _ rfl (.tmp 12) (.tmp 17) 79 rfl w.heap.size 3 i0_ _ 8 Try.underlying79 hi0 hz0 hz1 hz2 rfl (by omega) len_e64 one_e64 _ _ (by rfl) (HO.out.ext (Ext.trans F5.out (Ext.alloc _ _))) (some ⟨w5.heap.size, 0, none⟩) 2 2 [x, y] (by rfl) (At.newI2 w5 x y _) S1.out S2.out S3.out ?_; intro v7 w7 o7 g7 _ _; have O7 := hide o7; have G7 := hide g7; clear o7 g7)
      have E7 : Hid (Ext w w7) := hide (Own.below (HO.out.ext (Ext.trans F5.out (Ext.alloc _ _))) (Ext.trans HX.out (Ext.trans F5.out (Ext.alloc _ _))) G7.out (Nat.le_refl _))
      exact ⟨⟨k + 1, by omega, by go_num, hide (by rw [HSU.out]; exact O7.out), E7⟩, by simp [intOf]; omega⟩
    · obtain rfl : k = n := by omega
      obtain ⟨vA, vc, hv, hat⟩ := HO.out.at_ len_e64
      have HAT := hide hat
      have HLT := HO.out.lt
      have HTK : Hid (l.take k = l) := hide (List.take_of_length_le (by have := HL.out; omega))
      subst hv
      clear hlt hat
      go_wp2_with fail
      go_ret
      have HAT2 := HAT.out
      rw [HTK.out] at HAT2 ⊢
      exact ⟨_, _, _, rfl, HAT2, HX.out, fun a ha => by subst ha; exact (HLT a.block rfl).1⟩
end Go.Proofs.Ytkbmgakehlmcnaa
