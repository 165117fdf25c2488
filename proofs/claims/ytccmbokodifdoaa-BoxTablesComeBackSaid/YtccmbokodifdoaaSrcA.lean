/- Walks: the program's source (number, flag, end). Conditions as stated. -/
import Derived.Test.YtccmbokodifdoaaRdP
import Derived.Test.YtccmbokodifdoaaBoxC
import Derived.Test.YtccmbokodifdoaaSlice
import Derived.Deep.DeepCutAuto
namespace Go.Proofs.Ytccmbokodifdoaa
open Go.RowKit
abbrev srcC (A : Option Addr) (n c : Nat) (s : Rd) : Array Value := #[.slice A n c, .int .i64 (s.pos : Int), .bool s.bad]
theorem At.twn {α : Type} {w w' : World} {sz : Nat} {enc : α → List Value} {A : Option Addr} {n c : Nat} {xs : List α} {o : Nat} (h : At w sz enc A n c xs) (hF : Tw w w' o none) (hne : 0 < n → ∀ a, A = some a → a.block ≠ o) : At w' sz enc A n c xs := by
  rcases Nat.eq_zero_or_pos n with h0 | h0
  · have hl := h.len
    obtain rfl : xs = [] := List.eq_nil_of_length_eq_zero (by omega)
    exact ⟨h.len, h.le, h.max, h.none_, fun k x hx => by simp at hx⟩
  · exact h.tw hF (fun a ha => ⟨hne h0 a ha, by simp⟩)
set_option linter.unusedVariables false in
set_option maxRecDepth 100000 in
set_option maxHeartbeats 4000000 in
theorem srcNumber_any {sb : Nat} {A : Option Addr} {n c k : Nat} {b : List UInt8} {s : Rd} {w : World} (hB : Blk w sb 69 (srcC A n c s)) (h : At w 1 e8 A n c b) (hne : 0 < n → ∀ a, A = some a → a.block ≠ sb) (hp : s.pos ≤ n) (hk : 1 ≤ k ∧ k ≤ 8) :
    Calls Try.prog 32 #[.pointer (some ⟨sb, 0, none⟩), .int .i64 (k : Int)] w fun e w' => e = .returned (.int .u64 ((rdN b k s).1 : Int)) ∧ Blk w' sb 69 (srcC A n c (rdN b k s).2) ∧ Tw w w' sb none := by
  obtain ⟨hk1, hk2⟩ := hk
  have hl := h.len
  have hb := h.bound
  have hle := h.le
  have hbc := h.boundc
  obtain ⟨at_, bad⟩ := s
  have hp : at_ ≤ n := hp
  have HB := hide hB
  have c0 : w.cell? ⟨sb, 0, none⟩ = some (.slice A n c) := hB.cell 0
  have c1 : w.cell? ⟨sb, 1, none⟩ = some (.int .i64 (at_ : Int)) := hB.cell 1
  have c2 : w.cell? ⟨sb, 2, none⟩ = some (.bool bad) := hB.cell 2
  have z1 : w.frozen? ⟨sb, 1, none⟩ = false := hB.frozen 1
  have z2 : w.frozen? ⟨sb, 2, none⟩ = false := hB.frozen 2
  have hsb := hB.lt
  have HL := hide hl
  have H := hide h
  have HNE := hide hne
  have d1 : IntKind.i64.wrap ((n : Int) - (at_ : Int)) = (n : Int) - (at_ : Int) := by rw [IntKind.wrap_i64]; omega
  clear hB h hl hne
  cases bad with
  | true =>
    have HR : Hid (rdN b k ⟨at_, true⟩ = (0, ⟨at_, true⟩)) := hide (rdN_bad (.inl rfl))
    go_enter Try.func32, Try.ntmps32
    go_wp2_with fail
    go_quiet (fail)
    go_wp2_with fail
    go_ret
    rw [HR.out]
    exact ⟨rfl, (HB.out.drewN _).set_ 2 _, (Tw.of_ext (Ext.drewN _ _) _ _).trans (Tw.set_ _ _ _ _ _)⟩
  | false =>
    by_cases hs : n - at_ < k
    · have HR : Hid (rdN b k ⟨at_, false⟩ = (0, ⟨at_, true⟩)) := hide (rdN_bad (.inr (by show b.length - at_ < k; have := HL.out; omega)))
      have i1 : (n : Int) - (at_ : Int) < (k : Int) := by omega
      have i2 : decide ((n : Int) - (at_ : Int) < (k : Int)) = true := by simp; omega
      clear hs
      go_enter Try.func32, Try.ntmps32
      go_wp2_with fail
      go_quiet (fail)
      go_wp2_with fail
      go_ret
      rw [HR.out]
      exact ⟨rfl, (HB.out.drewN _).set_ 2 _, (Tw.of_ext (Ext.drewN _ _) _ _).trans (Tw.set_ _ _ _ _ _)⟩
    · have HR : Hid (rdN b k ⟨at_, false⟩ = (numB (cutB b at_ (at_ + k)), ⟨at_ + k, false⟩)) := hide (rdN_ok rfl (by show k ≤ b.length - at_; have := HL.out; omega))
      have i1 : ¬ (n : Int) - (at_ : Int) < (k : Int) := by omega
      have i2 : decide ((n : Int) - (at_ : Int) < (k : Int)) = false := by simp; omega
      have d2 : IntKind.i64.wrap ((at_ : Int) + (k : Int)) = (at_ : Int) + (k : Int) := by rw [IntKind.wrap_i64]; omega
      have d3 : IntKind.i64.wrap ((at_ : Int) + (k : Int) - (k : Int)) = (at_ : Int) := by rw [IntKind.wrap_i64]; omega
      obtain ⟨A1, hr1, ha1⟩ := H.out.range_ Try.underlying22 (fun _ => by kernel_rfl) (k := at_) (m := at_ + k) (by omega) (by omega) (at_ : Int) ((at_ : Int) + (k : Int)) rfl (by omega)
      have e1 : (b.drop at_).take (at_ + k - at_) = cutB b at_ (at_ + k) := rfl
      rw [e1] at ha1
      rw [show at_ + k - at_ = k by omega] at hr1 ha1
      have HN := hide (fun (W : World) (hW : Tw w W sb none) => numberOf_any (ha1 W (H.out.twn hW HNE.out)) (by omega))
      generalize numB (cutB b at_ (at_ + k)) = v at *
      clear ha1 e1 hs
      go_enter Try.func32, Try.ntmps32
      go_wp2_with fail
      go_quiet (fail)
      go_upto_region 5 with (fail)
      refine gen_wpC fun w2 h2 => ?_
      have T2 : Hid (Tw w w2 sb none) := hide (by rw [h2]; exact (Tw.of_ext (Ext.drewN _ _) _ _).trans (Tw.set_ _ _ _ _ _))
      have B2 : Hid (Blk w2 sb 69 #[.slice A n c, .int .i64 ((at_ : Int) + (k : Int)), .bool false]) := hide (by rw [h2]; exact (HB.out.drewN _).set_ 1 _)
      have c0 : w2.cell? ⟨sb, 0, none⟩ = some (.slice A n c) := B2.out.cell 0
      have c1 : w2.cell? ⟨sb, 1, none⟩ = some (.int .i64 ((at_ : Int) + (k : Int))) := B2.out.cell 1
      clear h2
      go_quiet ((go_at_call 62; exact quiet_left (HN.out _ (T2.out.drewN _))))
      go_wp2_with fail
      go_ret
      rw [HR.out]
      exact ⟨rfl, (by have := B2.out.drewN nq; rw [← Int.natCast_add] at this; exact this), T2.out.drewN _⟩
theorem srcN {sb : Nat} {A : Option Addr} {n c : Nat} {b : List UInt8} {s : Rd} {w : World} (k : Nat) (z : Int) (hz : (k : Int) = z) (hB : Blk w sb 69 (srcC A n c s)) (h : At w 1 e8 A n c b) (hne : 0 < n → ∀ a, A = some a → a.block ≠ sb) (hp : s.pos ≤ n) (hk : 1 ≤ k ∧ k ≤ 8) :
    Calls Try.prog 32 #[.pointer (some ⟨sb, 0, none⟩), .int .i64 z] w fun e w' => e = .returned (.int .u64 ((rdN b k s).1 : Int)) ∧ Blk w' sb 69 (srcC A n c (rdN b k s).2) ∧ Tw w w' sb none := by
  rw [← hz]; exact srcNumber_any hB h hne hp hk
set_option linter.unusedVariables false in
set_option maxRecDepth 100000 in
set_option maxHeartbeats 4000000 in
theorem srcFlag_any {sb : Nat} {A : Option Addr} {n c most : Nat} {b : List UInt8} {s : Rd} {w : World} (hB : Blk w sb 69 (srcC A n c s)) (h : At w 1 e8 A n c b) (hne : 0 < n → ∀ a, A = some a → a.block ≠ sb) (hp : s.pos ≤ n) (hm : most < 256) :
    Calls Try.prog 33 #[.pointer (some ⟨sb, 0, none⟩), .int .u8 (most : Int)] w fun e w' => e = .returned (.int .u8 ((rdF b most s).1 : Int)) ∧ Blk w' sb 69 (srcC A n c (rdF b most s).2) ∧ Tw w w' sb none := by
  have hN := srcN 1 1 rfl hB h hne hp (by omega)
  have hlt := rdN_lt (b := b) (k := 1) s (by omega)
  have hlt : (rdN b 1 s).1 < 256 := by simpa using hlt
  have hF : rdF b most s = if (rdN b 1 s).2.bad = false ∧ most < (rdN b 1 s).1 then ((rdN b 1 s).1, ⟨s.pos, true⟩) else rdN b 1 s := rfl
  have c1 : w.cell? ⟨sb, 1, none⟩ = some (.int .i64 (s.pos : Int)) := hB.cell 1
  obtain ⟨r, hr⟩ : ∃ r, r = rdN b 1 s := ⟨_, rfl⟩
  rw [← hr] at hN hlt hF
  obtain ⟨v, p, bd⟩ := r
  have HN := hide hN
  have HF := hide hF
  have hlt : v < 256 := hlt
  have h256 : (v : Int) % 256 = (v : Int) := by omega
  clear hN hF hB h hr hne
  go_enter Try.func33, Try.ntmps33
  go_wp2_with fail
  with_reducible refine HN.out.mono ?_
  rintro e w1 ⟨rfl, b1, t1⟩
  have B1 := hide b1
  have T1 := hide t1
  have d2 : w1.cell? ⟨sb, 2, none⟩ = some (.bool bd) := b1.cell 2
  have z1 : w1.frozen? ⟨sb, 1, none⟩ = false := b1.frozen 1
  have z2 : w1.frozen? ⟨sb, 2, none⟩ = false := b1.frozen 2
  have d1 : w1.cell? ⟨sb, 1, none⟩ = some (.int .i64 (p : Int)) := b1.cell 1
  clear b1 t1 c1
  cases bd with
  | true =>
    have HR : Hid (rdF b most s = (v, ⟨p, true⟩)) := hide (by rw [HF.out, if_neg (by simp)])
    go_wp2_with fail
    go_ret
    rw [HR.out]
    exact ⟨rfl, B1.out, T1.out⟩
  | false =>
    by_cases hm2 : most < v
    · have HR : Hid (rdF b most s = (v, ⟨s.pos, true⟩)) := hide (by rw [HF.out, if_pos ⟨rfl, hm2⟩])
      have i1 : (most : Int) < (v : Int) := by omega
      have i2 : decide ((most : Int) < (v : Int)) = true := by simp; omega
      have i3 : decide (most < v) = true := by simp; omega
      clear hm2
      go_wp2_with fail
      go_ret
      rw [HR.out]
      exact ⟨rfl, (B1.out.set_ 1 _).set_ 2 _, (T1.out.trans (Tw.set_ _ _ _ _ _)).trans (Tw.set_ _ _ _ _ _)⟩
    · have HR : Hid (rdF b most s = (v, ⟨p, false⟩)) := hide (by rw [HF.out, if_neg (fun h => hm2 h.2)])
      have i1 : ¬ (most : Int) < (v : Int) := by omega
      have i2 : decide ((most : Int) < (v : Int)) = false := by simp; omega
      have i3 : decide (most < v) = false := by simp; omega
      clear hm2
      go_wp2_with fail
      go_ret
      rw [HR.out]
      exact ⟨rfl, B1.out, T1.out⟩
theorem srcFl {sb : Nat} {A : Option Addr} {n c : Nat} {b : List UInt8} {s : Rd} {w : World} (most : Nat) (z : Int) (hz : (most : Int) = z) (hB : Blk w sb 69 (srcC A n c s)) (h : At w 1 e8 A n c b) (hne : 0 < n → ∀ a, A = some a → a.block ≠ sb) (hp : s.pos ≤ n) (hm : most < 256) :
    Calls Try.prog 33 #[.pointer (some ⟨sb, 0, none⟩), .int .u8 z] w fun e w' => e = .returned (.int .u8 ((rdF b most s).1 : Int)) ∧ Blk w' sb 69 (srcC A n c (rdF b most s).2) ∧ Tw w w' sb none := by
  rw [← hz]; exact srcFlag_any hB h hne hp hm
set_option linter.unusedVariables false in
set_option maxRecDepth 100000 in
set_option maxHeartbeats 4000000 in
theorem srcEnd_any {sb : Nat} {A : Option Addr} {n c : Nat} {b : List UInt8} {s : Rd} {w : World} (hB : Blk w sb 69 (srcC A n c s)) (h : At w 1 e8 A n c b) :
    Calls Try.prog 34 #[.pointer (some ⟨sb, 0, none⟩)] w fun e w' => e = .returned (.bool (!(rdE b s).bad)) ∧ Blk w' sb 69 (srcC A n c (rdE b s)) ∧ Tw w w' sb none := by
  obtain ⟨at_, bad⟩ := s
  have hl := h.len
  have hb := h.bound
  have hF : rdE b ⟨at_, bad⟩ = if bad = false ∧ at_ < b.length then ⟨at_, true⟩ else ⟨at_, bad⟩ := rfl
  rw [hl] at hF
  have HB := hide hB
  have c0 : w.cell? ⟨sb, 0, none⟩ = some (.slice A n c) := hB.cell 0
  have c1 : w.cell? ⟨sb, 1, none⟩ = some (.int .i64 (at_ : Int)) := hB.cell 1
  have c2 : w.cell? ⟨sb, 2, none⟩ = some (.bool bad) := hB.cell 2
  have z2 : w.frozen? ⟨sb, 2, none⟩ = false := hB.frozen 2
  have HF := hide hF
  clear hB h hl hF
  cases bad with
  | true =>
    have HR : Hid (rdE b ⟨at_, true⟩ = ⟨at_, true⟩) := hide (by rw [HF.out, if_neg (by simp)])
    go_enter Try.func34, Try.ntmps34
    go_wp2_with fail
    go_quiet (fail)
    go_wp2_with fail
    go_ret
    rw [HR.out]
    exact ⟨rfl, HB.out.drewN _, Tw.of_ext (Ext.drewN _ _) _ _⟩
  | false =>
    by_cases hs : at_ < n
    · have HR : Hid (rdE b ⟨at_, false⟩ = ⟨at_, true⟩) := hide (by rw [HF.out, if_pos ⟨rfl, hs⟩])
      have i1 : (at_ : Int) < (n : Int) := by omega
      have i2 : decide ((at_ : Int) < (n : Int)) = true := by simp; omega
      have i3 : decide (at_ < n) = true := by simp; omega
      clear hs
      go_enter Try.func34, Try.ntmps34
      go_wp2_with fail
      go_quiet (fail)
      go_wp2_with fail
      go_ret
      rw [HR.out]
      exact ⟨rfl, (HB.out.drewN _).set_ 2 _, (Tw.of_ext (Ext.drewN _ _) _ _).trans (Tw.set_ _ _ _ _ _)⟩
    · have HR : Hid (rdE b ⟨at_, false⟩ = ⟨at_, false⟩) := hide (by rw [HF.out, if_neg (fun h => hs h.2)])
      have i1 : ¬ (at_ : Int) < (n : Int) := by omega
      have i2 : decide ((at_ : Int) < (n : Int)) = false := by simp; omega
      have i3 : decide (at_ < n) = false := by simp; omega
      clear hs
      go_enter Try.func34, Try.ntmps34
      go_wp2_with fail
      go_quiet (fail)
      go_wp2_with fail
      go_ret
      rw [HR.out]
      exact ⟨rfl, HB.out.drewN _, Tw.of_ext (Ext.drewN _ _) _ _⟩
end Go.Proofs.Ytccmbokodifdoaa
