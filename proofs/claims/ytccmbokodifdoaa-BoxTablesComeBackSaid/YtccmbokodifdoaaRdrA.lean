/- Walks: the reference's reader (take, signed). Conditions as stated. -/
import Derived.Test.YtccmbokodifdoaaRdP
import Derived.Test.YtccmbokodifdoaaSrcA
import Derived.Test.YtccmbokodifdoaaRefA
import Derived.Test.YtccmbokodifdoaaWrtR
namespace Go.Proofs.Ytccmbokodifdoaa
open Go.RowKit
/-- Where the reference says that something is wrong: -1 where nothing is. -/
def badI (s : Rd) : Int := if s.bad = true then (s.pos : Int) else -1
/-- The reader's cells: where it is may be anything once something was wrong. -/
def RdrB (w : World) (rb : Nat) (A : Option Addr) (n c : Nat) (s : Rd) : Prop := ∃ p : Int, Blk w rb 108 #[.slice A n c, .int .i64 p, .int .i64 (badI s)] ∧ (s.bad = false → p = (s.pos : Int))
/-- What the reference's take gives: bytes. -/
def tkL (b : List UInt8) (k : Nat) (s : Rd) : List UInt8 := if s.bad = true ∨ b.length - s.pos < k then List.replicate k 0 else cutB b s.pos (s.pos + k)
theorem numB_nought : ∀ k, numB (List.replicate k 0) = 0
  | 0 => rfl
  | k + 1 => by rw [List.replicate_succ', numB_snoc, numB_nought k]; rfl
theorem tkL_num (b : List UInt8) (k : Nat) (s : Rd) : numB (tkL b k s) = (rdN b k s).1 := by
  unfold tkL rdN
  split
  · exact numB_nought k
  · rfl
theorem tkL_len {b : List UInt8} {k : Nat} {s : Rd} : (tkL b k s).length = k := by
  unfold tkL
  split
  · simp
  · rename_i hc
    have h1 : ¬ b.length - s.pos < k := fun h1 => hc (.inr h1)
    rcases Nat.eq_zero_or_pos k with h0 | h0
    · subst h0; unfold cutB; simp
    · exact cutB_len (by omega)
theorem made8 (m : Nat) (hm : m ≤ 8) : ∀ W : World, (Instr.makeSlice 22 (.int .i64 (m : Int)) (.int .i64 (m : Int))).run Try.prog W = .ok (.slice (some ⟨W.heap.size, 0, none⟩) m m) (W.alloc (.cells (madeCells #[.int .u8 0] m) 5)) := fun W => by
  obtain ⟨i0_, hi0, hz0, hz1, hz2⟩ := info_parts Try.info5
  have := made_run (P := Try.prog) 22 5 i0_ (.int .u8 0) Try.underlying22 hi0 hz0 (sz := 1) hz1 (bytes := 1) hz2 m (by omega) (by omega) W
  rw [Nat.mul_one] at this
  exact this
theorem made8_at (W : World) (m : Nat) (hm : m ≤ 8) : At (W.alloc (.cells (madeCells #[.int .u8 0] m) 5)) 1 e8 (some ⟨W.heap.size, 0, none⟩) m m (List.replicate m (0 : UInt8)) := by
  have := made_own (enc := e8) (x := (0 : UInt8)) (t := 5) (z := #[Value.int .u8 0]) (sz := 1) rfl rfl (by omega) W W.heap.size m (Nat.le_refl _) (by unfold maxLen; omega)
  rw [Nat.mul_one] at this
  exact this.atS len_e8
set_option linter.unusedVariables false in
set_option maxRecDepth 100000 in
set_option maxHeartbeats 4000000 in
theorem take_any {rb : Nat} {A : Option Addr} {n c k : Nat} {b : List UInt8} {s : Rd} {w : World} (hB : RdrB w rb A n c s) (h : At w 1 e8 A n c b) (hne : 0 < n → ∀ a, A = some a → a.block ≠ rb) (hp : s.pos ≤ n) (hk : 1 ≤ k ∧ k ≤ 8) :
    Calls Try.prog 64 #[.pointer (some ⟨rb, 0, none⟩), .int .i64 (k : Int)] w fun e w' => (∃ T tc, e = .returned (.slice T k tc) ∧ At w' 1 e8 T k tc (tkL b k s)) ∧ RdrB w' rb A n c (rdN b k s).2 ∧ Tw w w' rb none := by
  obtain ⟨hk1, hk2⟩ := hk
  have hl := h.len
  have hb := h.bound
  have hle := h.le
  have hbc := h.boundc
  obtain ⟨at_, bad⟩ := s
  have hp : at_ ≤ n := hp
  obtain ⟨p, hB, hpp⟩ := hB
  have HB := hide hB
  have c0 : w.cell? ⟨rb, 0, none⟩ = some (.slice A n c) := hB.cell 0
  have c1 : w.cell? ⟨rb, 1, none⟩ = some (.int .i64 p) := hB.cell 1
  have c2 : w.cell? ⟨rb, 2, none⟩ = some (.int .i64 (badI ⟨at_, bad⟩)) := hB.cell 2
  have z1 : w.frozen? ⟨rb, 1, none⟩ = false := hB.frozen 1
  have z2 : w.frozen? ⟨rb, 2, none⟩ = false := hB.frozen 2
  have hsb := hB.lt
  have HL := hide hl
  have H := hide h
  have HNE := hide hne
  have hmk := made8 k hk2
  have HMA := hide (fun (W : World) => made8_at W k hk2)
  clear hB h hl hne
  cases bad with
  | true =>
    have HR : Hid (rdN b k ⟨at_, true⟩ = (0, ⟨at_, true⟩) ∧ tkL b k ⟨at_, true⟩ = List.replicate k 0) := hide ⟨rdN_bad (.inl rfl), by unfold tkL; rw [if_pos (.inl rfl)]⟩
    have e2 : badI ⟨at_, true⟩ = (at_ : Int) := rfl
    have HE2 := hide e2
    rw [e2] at c2
    clear e2 hpp
    go_enter Try.func64, Try.ntmps64
    go_wp2_with fail
    go_ret
    rw [HR.out.1, HR.out.2]
    exact ⟨⟨_, _, rfl, HMA.out _⟩, ⟨p, HB.out.alloc _, fun h => by cases h⟩, Tw.of_ext (Ext.alloc _ _) _ _⟩
  | false =>
    obtain rfl : p = (at_ : Int) := hpp rfl
    have e2 : badI ⟨at_, false⟩ = -1 := rfl
    rw [e2] at c2
    have d1 : IntKind.i64.wrap ((n : Int) - (at_ : Int)) = (n : Int) - (at_ : Int) := by rw [IntKind.wrap_i64]; omega
    clear e2 hpp
    by_cases hs : n - at_ < k
    · have HR : Hid (rdN b k ⟨at_, false⟩ = (0, ⟨at_, true⟩) ∧ tkL b k ⟨at_, false⟩ = List.replicate k 0) := hide ⟨rdN_bad (.inr (by show b.length - at_ < k; have := HL.out; omega)), by unfold tkL; rw [if_pos (.inr (by show b.length - at_ < k; have := HL.out; omega))]⟩
      have i1 : (n : Int) - (at_ : Int) < (k : Int) := by omega
      clear hs
      go_enter Try.func64, Try.ntmps64
      go_wp2_with fail
      go_quiet (fail)
      go_wp2_with fail
      go_ret
      rw [HR.out.1, HR.out.2]
      refine ⟨⟨_, _, rfl, ?_⟩, ⟨(at_ : Int), ((HB.out.drewN _).set_ 2 _).alloc _, fun h => by cases h⟩, ((Tw.of_ext (Ext.drewN _ _) _ _).trans (Tw.set_ _ _ _ _ _)).trans (Tw.of_ext (Ext.alloc _ _) _ _)⟩
      have := HMA.out ((w.drewN nq).setCell ⟨rb, 2, none⟩ (.int .i64 (at_ : Int)))
      simpa using this
    · have HR : Hid (rdN b k ⟨at_, false⟩ = (numB (cutB b at_ (at_ + k)), ⟨at_ + k, false⟩) ∧ tkL b k ⟨at_, false⟩ = cutB b at_ (at_ + k)) := hide ⟨rdN_ok rfl (by show k ≤ b.length - at_; have := HL.out; omega), by unfold tkL; rw [if_neg (by simp; have := HL.out; omega)]⟩
      have i1 : ¬ (n : Int) - (at_ : Int) < (k : Int) := by omega
      have d2 : IntKind.i64.wrap ((at_ : Int) + (k : Int)) = (at_ : Int) + (k : Int) := by rw [IntKind.wrap_i64]; omega
      have d3 : IntKind.i64.wrap ((at_ : Int) + (k : Int) - (k : Int)) = (at_ : Int) := by rw [IntKind.wrap_i64]; omega
      obtain ⟨A1, hr1, ha1⟩ := H.out.range_ Try.underlying22 (fun _ => by kernel_rfl) (k := at_) (m := at_ + k) (by omega) (by omega) (at_ : Int) ((at_ : Int) + (k : Int)) rfl (by omega)
      have e1 : (b.drop at_).take (at_ + k - at_) = cutB b at_ (at_ + k) := rfl
      rw [e1] at ha1
      rw [show at_ + k - at_ = k by omega] at hr1 ha1
      have HN := hide (fun (W : World) (hW : Tw w W rb none) => ha1 W (H.out.twn hW HNE.out))
      clear ha1 e1 hs
      go_enter Try.func64, Try.ntmps64
      go_wp2_with fail
      go_quiet (fail)
      go_upto_region 7 with (fail)
      refine gen_wpC fun w2 h2 => ?_
      have T2 : Hid (Tw w w2 rb none) := hide (by rw [h2]; exact (Tw.of_ext (Ext.drewN _ _) _ _).trans (Tw.set_ _ _ _ _ _))
      have B2 : Hid (Blk w2 rb 108 #[.slice A n c, .int .i64 ((at_ : Int) + (k : Int)), .int .i64 (-1)]) := hide (by rw [h2]; exact (HB.out.drewN _).set_ 1 _)
      have c0 : w2.cell? ⟨rb, 0, none⟩ = some (.slice A n c) := B2.out.cell 0
      have c1 : w2.cell? ⟨rb, 1, none⟩ = some (.int .i64 ((at_ : Int) + (k : Int))) := B2.out.cell 1
      clear h2
      go_quiet (fail)
      go_wp2_with fail
      go_ret
      rw [HR.out.1, HR.out.2]
      exact ⟨⟨_, _, rfl, HN.out _ (T2.out.drewN _)⟩, ⟨_, (by have := B2.out.drewN nq; exact this), fun _ => (Int.natCast_add _ _).symm⟩, T2.out.drewN _⟩
theorem tkN {rb : Nat} {A : Option Addr} {n c : Nat} {b : List UInt8} {s : Rd} {w : World} (k : Nat) (z : Int) (hz : (k : Int) = z) (hB : RdrB w rb A n c s) (h : At w 1 e8 A n c b) (hne : 0 < n → ∀ a, A = some a → a.block ≠ rb) (hp : s.pos ≤ n) (hk : 1 ≤ k ∧ k ≤ 8) :
    Calls Try.prog 64 #[.pointer (some ⟨rb, 0, none⟩), .int .i64 z] w fun e w' => (∃ T tc, e = .returned (.slice T k tc) ∧ At w' 1 e8 T k tc (tkL b k s)) ∧ RdrB w' rb A n c (rdN b k s).2 ∧ Tw w w' rb none := by
  rw [← hz]; exact take_any hB h hne hp hk
/-- What the reference takes bytes for, with a sign. -/
def sgnR (l : List UInt8) : Int := if l.length = 4 ∧ 2147483648 ≤ numB l then (numB l : Int) - 4294967296 else IntKind.i64.wrap (numB l : Int)
set_option maxRecDepth 100000 in
set_option maxHeartbeats 2000000 in
theorem signed_any {A : Option Addr} {n c : Nat} {l : List UInt8} {w : World} (h : At w 1 e8 A n c l) (hn : n ≤ 8) :
    Calls Try.prog 65 #[.slice A n c] w fun e w' => e = .returned (.int .i64 (sgnR l)) ∧ w = w' := by
  have hl := h.len
  have H := hide h
  have HL := hide hl
  clear h hl
  go_enter Try.func65, Try.ntmps65
  go_wp2_with fail
  go_loop [3, 4] (fun rn ri => ∃ k : Nat, k ≤ n ∧ ri = .int .i64 k ∧ rn = .int .u64 (numB (l.take k))) (fun _ ri => n - (intOf ri).toNat)
  case atStart => exact ⟨0, by omega, rfl, rfl⟩
  case round =>
    obtain ⟨k, hk, rfl, rfl⟩ := hrel
    by_cases hlt : k < n
    · obtain ⟨b, off, rfl, _⟩ := H.out.addr (by omega)
      have hkl : k < l.length := by have := HL.out; omega
      have c1 := H.out.byte hkl
      have i1 : (k : Int) < (n : Int) := by omega
      have hst := numB_take hkl
      have hlt2 := numB_lt k (l.take k) (by rw [List.length_take]; omega)
      have hlt3 := numB_lt (k + 1) (l.take (k + 1)) (by rw [List.length_take]; omega)
      have hpw : 256 ^ (k + 1) ≤ 256 ^ 8 := Nat.pow_le_pow_right (by omega) (by omega)
      have hpw2 : (256 : Nat) ^ 8 = 18446744073709551616 := by decide
      have HST : Hid ((numB (l.take k) : Int) * 256 + (l[k].toNat : Int) = (numB (l.take (k + 1)) : Int)) := hide (by rw [hst]; push_cast; rfl)
      have hbb := (l[k]).toNat_lt
      have hq1 : numB (l.take k) * 256 + l[k].toNat < 18446744073709551616 := by omega
      generalize numB (l.take k) = q at *
      have u1 : IntKind.u64.wrap ((q : Int) * 256) = (q : Int) * 256 := by rw [IntKind.wrap_u64]; omega
      have u2 : IntKind.u64.wrap ((q : Int) * 256 + (l[k].toNat : Int)) = (q : Int) * 256 + (l[k].toNat : Int) := by rw [IntKind.wrap_u64]; omega
      clear hlt2 hst hlt3 hpw hpw2
      go_wp2_with fail
      exact ⟨⟨k + 1, by omega, by go_num, by rw [HST.out]⟩, by simp [intOf]; omega⟩
    · obtain rfl : n = k := by omega
      have HE : Hid (l.take n = l) := hide (by rw [← HL.out, List.take_length])
      rw [HE.out]
      have hlt2 := numB_lt n l HL.out
      have HSG : Hid (sgnR l = if n = 4 ∧ 2147483648 ≤ numB l then (numB l : Int) - 4294967296 else IntKind.i64.wrap (numB l : Int)) := hide (by unfold sgnR; rw [HL.out])
      have i1 : ¬ (n : Int) < (n : Int) := by omega
      have hn4 : n = 4 → numB l < 4294967296 := fun h4 => by subst h4; exact hlt2
      generalize numB l = q at *
      clear hlt2
      by_cases h4 : n = 4
      · have hq := hn4 h4
        have d0 : ((n : Int) == 4) = true := by rw [beq_iff_eq]; omega
        have u1 : IntKind.i64.wrap (q : Int) = (q : Int) := by rw [IntKind.wrap_i64]; omega
        have u2 : IntKind.i64.wrap ((q : Int) - 4294967296) = (q : Int) - 4294967296 := by rw [IntKind.wrap_i64]; omega
        by_cases hbig : 2147483648 ≤ q
        · have HV : Hid (sgnR l = (q : Int) - 4294967296) := hide (by rw [HSG.out, if_pos ⟨h4, hbig⟩])
          have j1 : (2147483648 : Int) ≤ (q : Int) := by omega
          have j2 : decide ((2147483648 : Int) ≤ (q : Int)) = true := by simp; omega
          have j3 : decide (2147483648 ≤ q) = true := by simp; omega
          clear h4 hbig hn4
          go_wp2_with fail
          go_ret
          exact ⟨ret_int HV.out.symm, rfl⟩
        · have HV : Hid (sgnR l = (q : Int)) := hide (by rw [HSG.out, if_neg (fun h => hbig h.2), u1])
          have j1 : ¬ (2147483648 : Int) ≤ (q : Int) := by omega
          have j2 : decide ((2147483648 : Int) ≤ (q : Int)) = false := by simp; omega
          have j3 : decide (2147483648 ≤ q) = false := by simp; omega
          clear h4 hbig hn4
          go_wp2_with fail
          go_ret
          exact ⟨ret_int HV.out.symm, rfl⟩
      · have d0 : ((n : Int) == 4) = false := by rw [beq_eq_false_iff_ne]; omega
        have HV : Hid (sgnR l = IntKind.i64.wrap (q : Int)) := hide (by rw [HSG.out, if_neg (fun h => h4 h.1)])
        clear h4 hn4
        go_wp2_with fail
        go_ret
        exact ⟨ret_int (by rw [HV.out]; first | (rw [IntKind.wrap_i64, wrap64]; done) | (symm; exact IntKind.wrap_i64 _)), rfl⟩
end Go.Proofs.Ytccmbokodifdoaa
