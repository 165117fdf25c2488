/- Walks: list and runs of the program's source. Conditions as stated. -/
import Derived.Test.YtccmbokodifdoaaLstP
import Derived.Test.YtccmbokodifdoaaSrcA
import Derived.Test.YtccmbokodifdoaaTree
import Derived.Deep.DeepCutAuto
namespace Go.Proofs.Ytccmbokodifdoaa
open Go.RowKit
theorem Try.info3 : (Try.prog.info? 3).map (fun i => (i.zero, i.size, i.bytes)) = some (some (.int .i64 0), 1, 8) := by kernel_rfl
/-- What list gives. -/
def LsGives (w : World) (sb : Nat) (A : Option Addr) (n c : Nat) (r : List Int × Rd) (e : Ending) (w' : World) : Prop :=
  ∃ T k tc, e = .returned (.slice T k tc) ∧ At w' 1 e64 T k tc r.1 ∧ Blk w' sb 69 (srcC A n c r.2) ∧ Tw w w' sb none ∧ ∀ a, T = some a → w.heap.size ≤ a.block
set_option linter.unusedVariables false in
set_option maxRecDepth 100000 in
set_option maxHeartbeats 8000000 in
theorem srcList_any {sb : Nat} {A : Option Addr} {n c each : Nat} {z : Int} {b : List UInt8} {s : Rd} {w : World} (hB : Blk w sb 69 (srcC A n c s)) (h : At w 1 e8 A n c b) (hne : 0 < n → ∀ a, A = some a → a.block ≠ sb) (hp : s.pos ≤ n) (hz : (each : Int) = z) (he : 1 ≤ each ∧ each ≤ 2) :
    Calls Try.prog 84 #[.pointer (some ⟨sb, 0, none⟩), .int .i64 z] w (LsGives w sb A n c (lsF b each s)) := by
  have hl := h.len
  have hbd := h.bound
  have HB := hide hB
  have H := hide h
  have HL := hide hl
  have HNE := hide hne
  have hsb := hB.lt
  obtain ⟨i0_, hi0, hz0, hz1, hz2⟩ := info_parts Try.info3
  have HC4 := hide (srcN 4 4 rfl hB h hne hp (by omega))
  have HNM := hide (fun (W : World) (q : Rd) (hR : Blk W sb 69 (srcC A n c q)) (hT : Tw w W sb none) (hq : q.pos ≤ n) => srcN 8 8 rfl hR (h.twn hT hne) hne hq (by omega))
  have hv : (rdN b 4 s).1 < 4294967296 := rdN_lt (b := b) (k := 4) s (by omega)
  have hqp : (rdN b 4 s).2.pos ≤ n := by have := rdN_pos (b := b) (k := 4) (s := s) (by omega); omega
  have HLC := hide (lsH_cases b each s)
  have hx1 : w.cell? ⟨sb, 1, none⟩ = some (.int .i64 (s.pos : Int)) := hB.cell 1
  clear hB h hne
  generalize hr : rdN b 4 s = r at *
  obtain ⟨v, qp, qb⟩ := r
  simp only at hv hqp HLC HC4
  clear hr
  go_enter Try.func84, Try.ntmps84
  go_wp2_with fail
  with_reducible refine HC4.out.mono ?_
  rintro e w3 ⟨rfl, b3, t3⟩
  have B3 := hide b3
  have T3 := hide t3
  have u0 : IntKind.i64.wrap (v : Int) = (v : Int) := by rw [IntKind.wrap_i64]; omega
  have x0 : w3.cell? ⟨sb, 0, none⟩ = some (.slice A n c) := b3.cell 0
  have x1 : w3.cell? ⟨sb, 1, none⟩ = some (.int .i64 (qp : Int)) := b3.cell 1
  have x2 : w3.cell? ⟨sb, 2, none⟩ = some (.bool qb) := b3.cell 2
  have z1 : w3.frozen? ⟨sb, 1, none⟩ = false := b3.frozen 1
  have z2 : w3.frozen? ⟨sb, 2, none⟩ = false := b3.frozen 2
  obtain ⟨m, hm⟩ : ∃ m, m = v * each := ⟨_, rfl⟩
  have hmb : m ≤ 8589934592 := by
    have : v * each ≤ v * 2 := Nat.mul_le_mul_left _ he.2
    omega
  rw [← hm] at HLC
  have hmi : (v : Int) * z = (m : Int) := by rw [hm, ← hz]; push_cast; rfl
  have u1 : IntKind.i64.wrap ((v : Int) * z) = (m : Int) := by rw [hmi, IntKind.wrap_i64]; omega
  have u2 : IntKind.i64.wrap ((m : Int) * 8) = (m : Int) * 8 := by rw [IntKind.wrap_i64]; omega
  have u3 : IntKind.i64.wrap ((n : Int) - (qp : Int)) = (n : Int) - (qp : Int) := by rw [IntKind.wrap_i64]; omega
  have hsz3 := t3.size
  clear b3 t3 hx1 HC4 HB hm hz he
  go_upto_region 3 with (fail)
  go_cut [36] (fun sv wx => sv = .bool (decide (qb = false ∧ n - qp < m * 8)) ∧ w3.drew = wx)
  case first =>
    cases qb with
    | true =>
      go_region
      go_wp2_with fail
      go_meet
      exact ⟨by simp, by first | rfl | trivial⟩
    | false =>
      have HD : Hid (decide ((false = false) ∧ n - qp < m * 8) = decide ((n : Int) - (qp : Int) < (m : Int) * 8)) := hide (by rw [decide_eq_decide]; simp; omega)
      go_region
      go_wp2_with fail
      go_meet
      exact ⟨by rw [HD.out], by first | rfl | trivial⟩
  case rest =>
  obtain ⟨rfl, hw⟩ := hcut
  have B4 : Hid (Blk wc sb 69 (srcC A n c ⟨qp, qb⟩)) := hide (by rw [← hw]; exact B3.out.drew)
  have T4 : Hid (Tw w wc sb none) := hide (by rw [← hw]; exact T3.out.drew)
  have x1 : wc.cell? ⟨sb, 1, none⟩ = some (.int .i64 (qp : Int)) := B4.out.cell 1
  have x2 : wc.cell? ⟨sb, 2, none⟩ = some (.bool qb) := B4.out.cell 2
  have z1 : wc.frozen? ⟨sb, 1, none⟩ = false := B4.out.frozen 1
  have z2 : wc.frozen? ⟨sb, 2, none⟩ = false := B4.out.frozen 2
  clear hw B3 T3 x0
  go_upto_if 36 with (fail)
  go_cut [] (fun wx => Hid (Blk wx sb 69 (srcC A n c (lsH b each s).2)) ∧ Hid (Tw w wx sb none))
  case first =>
    cases hd : decide (qb = false ∧ n - qp < m * 8) with
    | true =>
      have hd2 := of_decide_eq_true hd
      have HE : Hid ((lsH b each s).2 = ⟨s.pos, true⟩) := hide (by
        have h9 := HL.out
        rcases HLC.out with ⟨g1, _⟩ | ⟨_, _, g3⟩ | ⟨_, g2, _⟩
        · rw [hd2.1] at g1; cases g1
        · rw [g3]
        · exfalso; have := hd2.2; omega)
      have x2f : wc.cell? ⟨sb, 2, none⟩ = some (.bool false) := by rw [← hd2.1]; exact x2
      clear hd hd2 x2
      go_wp2_with fail
      go_meet
      exact ⟨hide (by rw [HE.out]; exact (B4.out.set_ 1 _).set_ 2 _), hide ((T4.out.trans (Tw.set_ _ _ _ _ _)).trans (Tw.set_ _ _ _ _ _))⟩
    | false =>
      have hd2 := of_decide_eq_false hd
      have HE : Hid ((lsH b each s).2 = ⟨qp, qb⟩) := hide (by
        have h9 := HL.out
        rcases HLC.out with ⟨_, g3⟩ | ⟨g1, g2, _⟩ | ⟨_, _, g3⟩
        · rw [g3]
        · exact absurd ⟨g1, by omega⟩ hd2
        · rw [g3])
      clear hd hd2
      go_wp2_with fail
      go_meet
      exact ⟨hide (by rw [HE.out]; exact B4.out), T4⟩
  case rest =>
  obtain ⟨B5, T5⟩ := hcut
  clear B4 T4 x1 x2 z1 z2
  have HLS : Hid (lsF b each s = nmL b (lsH b each s).2 (lsH b each s).1) := hide rfl
  have HBK : Hid ((lsH b each s).2.bad = true → (lsH b each s).1 = 0) := hide (fun hb => by
    rcases HLC.out with ⟨_, g3⟩ | ⟨_, _, g3⟩ | ⟨g1, _, g3⟩
    · rw [g3]
    · rw [g3]
    · rw [g3] at hb; have hb : qb = true := hb; have g1 : qb = false := g1; rw [g1] at hb; cases hb)
  have HOK : Hid ((lsH b each s).2.bad = false → (lsH b each s).1 = m ∧ (lsH b each s).2.pos ≤ n ∧ 8 * m ≤ b.length - (lsH b each s).2.pos) := hide (fun hb => by
    rcases HLC.out with ⟨g1, g3⟩ | ⟨_, _, g3⟩ | ⟨_, g2, g3⟩
    · rw [g3] at hb; have hb : qb = false := hb; have g1 : qb = true := g1; rw [g1] at hb; cases hb
    · rw [g3] at hb; cases hb
    · rw [g3]; exact ⟨rfl, hqp, by show 8 * m ≤ b.length - qp; have g2 : m * 8 ≤ b.length - qp := g2; omega⟩)
  generalize hq : lsH b each s = q at *
  obtain ⟨cnt, hp5, hb5⟩ := q
  simp only at B5 HLS HBK HOK
  clear hq HLC
  have y2 : wc.cell? ⟨sb, 2, none⟩ = some (.bool hb5) := B5.out.cell 2
  cases hb5 with
  | true =>
    have h0 := HBK.out rfl
    subst h0
    go_wp2_with fail
    go_ret
    rw [HLS.out]
    exact ⟨none, 0, 0, rfl, At.nil _ _ _, B5.out, T5.out, fun a ha => by cases ha⟩
  | false =>
    obtain ⟨hcm, hpn, hfit⟩ := HOK.out rfl
    subst hcm
    have HFIT := hide hfit
    have hpn5 := hpn
    clear HOK HBK
    go_wp2_with fail
    go_loopw [7, 51] (fun r7 ri wr => ∃ k : Nat, k ≤ cnt ∧ ri = .int .i64 k ∧ Hid (Own wr w.heap.size 3 1 e64 r7 (nmL b ⟨hp5, false⟩ k).1) ∧ Hid (Blk wr sb 69 (srcC A n c (nmL b ⟨hp5, false⟩ k).2)) ∧ Hid (Tw w wr sb none)) (fun _ ri _ => cnt - (intOf ri).toNat)
    case atStart => exact ⟨0, by omega, rfl, hide (Own.nil _ _ _ _ _), B5, T5⟩
    case round =>
      obtain ⟨k, hk, rfl, HO, HR, HT⟩ := hrel
      by_cases hlt : k < cnt
      · have hst := nmL_ok HFIT.out k hk
        have HSU : Hid ((nmL b ⟨hp5, false⟩ (k + 1)).1 = (nmL b ⟨hp5, false⟩ k).1 ++ [IntKind.i64.wrap ((rdN b 8 (nmL b ⟨hp5, false⟩ k).2).1 : Int)] ∧ (nmL b ⟨hp5, false⟩ (k + 1)).2 = (rdN b 8 (nmL b ⟨hp5, false⟩ k).2).2) := hide ⟨rfl, rfl⟩
        have hlk : (nmL b ⟨hp5, false⟩ k).1.length = k := nmL_len _ _ _
        have i8 : IntKind.i64.wrap ((k : Int) + 1) = (k : Int) + 1 := by rw [IntKind.wrap_i64]; omega
        have i1 : (k : Int) < (cnt : Int) := by omega
        have S1 : Hid ((nmL b ⟨hp5, false⟩ k).1.length + 1 ≤ maxLen) := hide (by rw [hlk]; unfold maxLen; omega)
        have S2 : Hid (((nmL b ⟨hp5, false⟩ k).1.length + 1) * 8 ≤ 140737488355328) := hide (by rw [hlk]; omega)
        have HRL := HO.out.lt
        have HNR : Hid (∀ g, u7.ownBlock = some g → w.heap.size ≤ g ∧ g ≠ sb) := hide (fun g hg => ⟨(HRL g hg).1, by have := (HRL g hg).1; omega⟩)
        have HN8 := hide (HNM.out _ _ HR.out HT.out (by rw [hst]; show hp5 + 8 * k ≤ n; have := HL.out; have := HFIT.out; omega))
        obtain ⟨xv, hxv⟩ : ∃ xv, xv = IntKind.i64.wrap ((rdN b 8 (nmL b ⟨hp5, false⟩ k).2).1 : Int) := ⟨_, rfl⟩
        rw [← hxv] at HSU
        have ux : IntKind.i64.wrap ((rdN b 8 (nmL b ⟨hp5, false⟩ k).2).1 : Int) = xv := hxv.symm
        clear hst hlk HRL hxv
        go_wp2_with fail
        with_reducible refine HN8.out.mono ?_
        rintro e w6 ⟨rfl, b6, t6⟩
        have R6 := hide b6
        have T6 := hide (HT.out.trans t6)
        have O6 := hide (HO.out.tw t6 (fun e => (HNR.out sb e).2 rfl) (fun g _ e => by cases e))
        have S3 : Hid (w.heap.size ≤ (w6.alloc (.cells #[.int .i64 xv] 3)).heap.size) := hide (by have := T6.out.size; rw [World.size_alloc]; omega)
        clear b6 t6 HN8
        go_wp2_with (at_builtin; refine wpList_append_at _ rfl (.tmp 53) (.tmp 57) 34 rfl w.heap.size 3 i0_ _ 8 Try.underlying34 hi0 hz0 hz1 hz2 rfl (by omega) len_e64 one_e64 _ _ (by rfl) (O6.out.ext (Ext.alloc _ _)) (some ⟨w6.heap.size, 0, none⟩) 1 1 [xv] (by rfl) (At.new1 w6 xv _ rfl _) S1.out S2.out S3.out ?_; intro v7 w7 o7 g7 _ _; have O7 := hide o7; have G7 := hide g7; clear o7 g7)
        exact ⟨⟨k + 1, by omega, by go_num, hide (by rw [HSU.out.1]; exact O7.out), hide (by rw [HSU.out.2]; exact (R6.out.ext (Ext.alloc _ _)).grown G7.out (fun e => (HNR.out sb e.symm).2 rfl)), hide ((T6.out.trans (Tw.of_ext (Ext.alloc _ _) _ _)).row G7.out (fun g hg => .inl (HNR.out g hg).1))⟩, by simp [intOf]; omega⟩
      · obtain rfl : k = cnt := by omega
        obtain ⟨vA, vc, hv, hat⟩ := HO.out.at_ len_e64
        have HAT := hide hat
        have HLT := HO.out.lt
        subst hv
        clear hlt hat
        go_wp2_with fail
        go_ret
        rw [HLS.out]
        exact ⟨_, _, _, rfl, HAT.out, HR.out, HT.out, fun a ha => by subst ha; exact (HLT a.block rfl).1⟩
end Go.Proofs.Ytccmbokodifdoaa
