/- Several texts in one: Walk: column of the reference's reader. Conditions as stated; Walks: rows and runsOf of the reference. Conditions as stated. -/
import Derived.Test.YtlonhkjplijlcaaMrg39
import Derived.Test.YtlonhkjplijlcaaMrg02
import Derived.Test.YtlonhkjplijlcaaMrg07
namespace Go.Proofs.Ytlonhkjplijlcaa
open Go.RowKit
theorem badI_neg (s : Rd) : (badI s < 0) ↔ s.bad = false := by unfold badI; cases s.bad <;> simp
theorem RdrB.tw {w w' : World} {rb : Nat} {A : Option Addr} {n c : Nat} {s : Rd} {o : Nat} {row : Option Nat} (h : RdrB w rb A n c s) (ht : Tw w w' o row) (h1 : rb ≠ o) (h2 : some rb ≠ row) : RdrB w' rb A n c s := by
  obtain ⟨p, hb, hp⟩ := h
  exact ⟨p, ht.blk hb h1 h2, hp⟩
theorem RdrB.ext {w w' : World} {rb : Nat} {A : Option Addr} {n c : Nat} {s : Rd} (h : RdrB w rb A n c s) (he : Ext w w') : RdrB w' rb A n c s := by
  obtain ⟨p, hb, hp⟩ := h
  exact ⟨p, hb.ext he, hp⟩
theorem RdrB.grown {w w' : World} {rb : Nat} {A : Option Addr} {n c : Nat} {s : Rd} {row : Option Nat} (h : RdrB w rb A n c s) (hg : w.grownBy w' row) (h2 : some rb ≠ row) : RdrB w' rb A n c s := by
  obtain ⟨p, hb, hp⟩ := h
  exact ⟨p, hb.grown hg h2, hp⟩
theorem RdrB.lt {w : World} {rb : Nat} {A : Option Addr} {n c : Nat} {s : Rd} (h : RdrB w rb A n c s) : rb < w.heap.size := by
  obtain ⟨p, hb, hp⟩ := h
  exact hb.lt
theorem Try.infoI3 : (Try.prog.info? 3).map (fun i => (i.zero, i.size, i.bytes)) = some (some (.int .i64 0), 1, 8) := by kernel_rfl
end Go.Proofs.Ytlonhkjplijlcaa
namespace Go.Proofs.Ytlonhkjplijlcaa
open Go.RowKit
/-- What rows gives. -/
def RwGives (w : World) (rb : Nat) (A : Option Addr) (n c : Nat) (r : List Int × Rd) (e : Ending) (w' : World) : Prop :=
  ∃ T k tc, e = .returned (.slice T k tc) ∧ At w' 1 e64 T k tc r.1 ∧ RdrB w' rb A n c r.2 ∧ Tw w w' rb none ∧ ∀ a, T = some a → w.heap.size ≤ a.block
theorem sgnR8 {b : List UInt8} {s : Rd} : sgnR (tkL b 8 s) = IntKind.i64.wrap ((rdN b 8 s).1 : Int) := by
  unfold sgnR; rw [tkL_len, if_neg (fun hh => by have := hh.1; omega), tkL_num]
theorem numR4 {b : List UInt8} {s : Rd} : (numR (tkL b 4 s) : Int) = ((rdN b 4 s).1 : Int) := by rw [numR_small (by rw [tkL_len]; omega), tkL_num]
set_option linter.unusedVariables false in
set_option maxRecDepth 100000 in
set_option maxHeartbeats 8000000 in
theorem rows_any {rb : Nat} {A : Option Addr} {n c each : Nat} {z : Int} {b : List UInt8} {s : Rd} {w : World} (hB : RdrB w rb A n c s) (h : At w 1 e8 A n c b) (hne : 0 < n → ∀ a, A = some a → a.block ≠ rb) (hp : s.pos ≤ n) (hz : (each : Int) = z) (he : 1 ≤ each ∧ each ≤ 2) :
    Calls Try.prog 105 #[.pointer (some ⟨rb, 0, none⟩), .int .i64 z] w (RwGives w rb A n c (lsF b each s)) := by
  have hl := h.len
  have hbd := h.bound
  have HB := hide hB
  have H := hide h
  have HL := hide hl
  have HNE := hide hne
  have hrb := hB.lt
  obtain ⟨i0_, hi0, hz0, hz1, hz2⟩ := info_parts Try.infoI3
  have HC4 := hide (tkN 4 4 rfl hB h hne hp (by omega))
  have HNM := hide (fun (W : World) (q : Rd) (hR : RdrB W rb A n c q) (hT : Tw w W rb none) (hq : q.pos ≤ n) => tkN 8 8 rfl hR (h.twn hT hne) hne hq (by omega))
  have hv : (rdN b 4 s).1 < 4294967296 := rdN_lt (b := b) (k := 4) s (by omega)
  have hqp : (rdN b 4 s).2.pos ≤ n := by have := rdN_pos (b := b) (k := 4) (s := s) (by omega); omega
  have HLC := hide (lsH_cases b each s)
  have HV4 := hide (numR4 (b := b) (s := s))
  have HST : Hid (s.bad = true → rdN b 4 s = (0, s)) := hide (fun hb => rdN_stays hb)
  obtain ⟨p0, hb0, hp0⟩ := hB
  have x1 : w.cell? ⟨rb, 1, none⟩ = some (.int .i64 p0) := hb0.cell 1
  have HP0 := hide hp0
  clear hb0 h hne hp0
  go_enter Try.func105, Try.ntmps105
  go_wp2_with fail
  with_reducible refine HC4.out.mono ?_
  rintro e w3 ⟨⟨T3, tc3, rfl, a3⟩, b3, t3⟩
  have R3 := hide b3
  have T3_ := hide t3
  have HN3 := hide (number_any a3 (by omega))
  have hsz3 := t3.size
  clear a3 b3 t3 HC4 x1
  go_wp2_with fail
  with_reducible refine HN3.out.mono ?_
  rintro e w' ⟨rfl, rfl⟩
  rw [HV4.out]
  clear HN3 HV4
  generalize hr : rdN b 4 s = r at *
  obtain ⟨v, q⟩ := r
  simp only at hv hqp HLC R3 ⊢
  have HRS : Hid (s.bad = true → v = 0 ∧ q = s) := hide (fun hb => by have := HST.out hb; injection this with h1 h2; exact ⟨h1, h2⟩)
  clear hr HST
  obtain ⟨m, hm⟩ : ∃ m, m = v * each := ⟨_, rfl⟩
  have hmb : m ≤ 8589934592 := by
    have : v * each ≤ v * 2 := Nat.mul_le_mul_left _ he.2
    omega
  rw [← hm] at HLC
  have hmi : (v : Int) * z = (m : Int) := by rw [hm, ← hz]; push_cast; rfl
  have u1 : IntKind.i64.wrap ((v : Int) * z) = (m : Int) := by rw [hmi, IntKind.wrap_i64]; omega
  obtain ⟨p3, hb3, hp3⟩ := R3.out
  have x0 : w3.cell? ⟨rb, 0, none⟩ = some (.slice A n c) := hb3.cell 0
  have x1 : w3.cell? ⟨rb, 1, none⟩ = some (.int .i64 p3) := hb3.cell 1
  have x2 : w3.cell? ⟨rb, 2, none⟩ = some (.int .i64 (badI q)) := hb3.cell 2
  have z2 : w3.frozen? ⟨rb, 2, none⟩ = false := hb3.frozen 2
  have HB3 := hide hb3
  have HBN := hide (badI_neg q)
  have HZ := hide (And.intro hz (And.intro hm he))
  clear hb3 hm hz he
  go_upto_region 3 with (fail)
  go_cut [37] (fun sv wx => sv = .bool (decide (q.bad = false ∧ n - q.pos < m * 8)) ∧ w3.drew = wx)
  case first =>
    obtain ⟨bi, hbi⟩ : ∃ bi, bi = badI q := ⟨_, rfl⟩
    rw [← hbi] at x2 HBN
    clear hbi
    by_cases hneg : bi < 0
    · have i0 : decide (bi < 0) = true := by simp; omega
      have hqb := HBN.out.1 hneg
      have hp3e := hp3 hqb
      subst hp3e
      have hzz := HZ.out
      obtain ⟨d, hd⟩ : ∃ d : Nat, d = (n - q.pos) / (8 * each) := ⟨_, rfl⟩
      have hdb : d ≤ n - q.pos := by rw [hd]; exact Nat.div_le_self _ _
      have u3 : IntKind.i64.wrap ((n : Int) - (q.pos : Int)) = (n : Int) - (q.pos : Int) := by rw [IntKind.wrap_i64]; omega
      have u4 : IntKind.i64.wrap (8 * z) = 8 * z := by rw [IntKind.wrap_i64]; omega
      have hde : ((n : Int) - (q.pos : Int)) / (8 * z) = (d : Int) := by rw [hd, ← hzz.1, Int.natCast_ediv, Int.natCast_mul, Int.natCast_sub hqp]; rfl
      have u5 : IntKind.i64.wrap (((n : Int) - (q.pos : Int)).tdiv (8 * z)) = (d : Int) := by rw [Int.tdiv_eq_ediv_of_nonneg (by omega), hde, IntKind.wrap_i64]; omega
      have u6 : wrap64 (((n : Int) - (q.pos : Int)).tdiv (8 * z)) = (d : Int) := by rw [wrap64, Int.tdiv_eq_ediv_of_nonneg (by omega), hde]; omega
      have n1 : 8 * z ≠ 0 := by omega
      have n2 : (8 * z == 0) = false := by rw [beq_eq_false_iff_ne]; omega
      have n3 : 0 < 8 * z := by omega
      have n4 : (0 : Int) ≤ (n : Int) - (q.pos : Int) := by omega
      have HD : Hid (decide (q.bad = false ∧ n - q.pos < m * 8) = decide ((d : Int) < (v : Int))) := hide (by
        rw [decide_eq_decide, hd]
        have h8 : (n - q.pos) / (8 * each) < v ↔ n - q.pos < v * (8 * each) := Nat.div_lt_iff_lt_mul (by omega)
        have h9 : v * (8 * each) = m * 8 := by rw [hzz.2.1, Nat.mul_comm 8 each, Nat.mul_assoc]
        rw [h9] at h8
        exact ⟨fun h => by have := h8.2 h.2; omega, fun h => ⟨hqb, h8.1 (by omega)⟩⟩)
      clear hd hdb hp3
      go_region
      go_wp2_with fail
      go_meet
      exact ⟨by rw [HD.out]; first | done | simp, by first | rfl | trivial⟩
    · have i0 : decide (bi < 0) = false := by simp; omega
      have HD : Hid (decide (q.bad = false ∧ n - q.pos < m * 8) = false) := hide (by rw [decide_eq_false_iff_not]; exact fun h => hneg (HBN.out.2 h.1))
      go_region
      go_wp2_with fail
      go_meet
      exact ⟨by rw [HD.out], by first | rfl | trivial⟩
  case rest =>
  obtain ⟨rfl, hw⟩ := hcut
  have R4 : Hid (RdrB wc rb A n c q) := hide (by rw [← hw]; exact ⟨p3, HB3.out.drew, hp3⟩)
  have T4 : Hid (Tw w wc rb none) := hide (by rw [← hw]; exact T3_.out.drew)
  clear hw R3 T3_ x0 x1 x2 z2 HB3 hp3
  obtain ⟨p4, hb4, hp4⟩ := R4.out
  have x2 : wc.cell? ⟨rb, 2, none⟩ = some (.int .i64 (badI q)) := hb4.cell 2
  have z2 : wc.frozen? ⟨rb, 2, none⟩ = false := hb4.frozen 2
  have HB4 := hide hb4
  clear hb4 hp4
  go_upto_if 37 with (fail)
  go_cut [] (fun wx => Hid (RdrB wx rb A n c (lsH b each s).2) ∧ Hid (Tw w wx rb none))
  case first =>
    cases hd : decide (q.bad = false ∧ n - q.pos < m * 8) with
    | true =>
      have hd2 := of_decide_eq_true hd
      have HE : Hid ((lsH b each s).2 = ⟨s.pos, true⟩) := hide (by
        have h9 := HL.out
        rcases HLC.out with ⟨g1, _⟩ | ⟨_, _, g3⟩ | ⟨_, g2, _⟩
        · rw [hd2.1] at g1; cases g1
        · rw [g3]
        · exfalso; have := hd2.2; omega)
      have hs0 : s.bad = false := by
        cases hb : s.bad with
        | false => rfl
        | true => have h3 := (HRS.out hb).2; have h4 := hd2.1; rw [h3, hb] at h4; cases h4
      have hpe := HP0.out hs0
      subst hpe
      clear hd hd2 hs0
      go_wp2_with fail
      go_meet
      exact ⟨hide (by rw [HE.out]; exact ⟨p4, HB4.out.set_ 2 _, fun h => by cases h⟩), hide (T4.out.trans (Tw.set_ _ _ _ _ _))⟩
    | false =>
      have hd2 := of_decide_eq_false hd
      have HE : Hid ((lsH b each s).2 = q) := hide (by
        have h9 := HL.out
        rcases HLC.out with ⟨_, g3⟩ | ⟨g1, g2, _⟩ | ⟨_, _, g3⟩
        · rw [g3]
        · exact absurd ⟨g1, by omega⟩ hd2
        · rw [g3])
      clear hd hd2
      go_wp2_with fail
      go_meet
      exact ⟨hide (by rw [HE.out]; exact R4.out), T4⟩
  case rest =>
  obtain ⟨R5, T5⟩ := hcut
  clear R4 T4 x2 z2 HB4
  have HLS : Hid (lsF b each s = nmL b (lsH b each s).2 (lsH b each s).1) := hide rfl
  have HBK : Hid ((lsH b each s).2.bad = true → (lsH b each s).1 = 0) := hide (fun hb => by
    rcases HLC.out with ⟨_, g3⟩ | ⟨_, _, g3⟩ | ⟨g1, _, g3⟩
    · rw [g3]
    · rw [g3]
    · rw [g3] at hb; rw [hb] at g1; cases g1)
  have HOK : Hid ((lsH b each s).2.bad = false → (lsH b each s).1 = m ∧ (lsH b each s).2.pos ≤ n ∧ 8 * m ≤ b.length - (lsH b each s).2.pos) := hide (fun hb => by
    rcases HLC.out with ⟨g1, g3⟩ | ⟨_, _, g3⟩ | ⟨_, g2, g3⟩
    · rw [g3] at hb; rw [hb] at g1; cases g1
    · rw [g3] at hb; cases hb
    · rw [g3]; exact ⟨rfl, hqp, by show 8 * m ≤ b.length - q.pos; omega⟩)
  generalize hq : lsH b each s = q5 at *
  obtain ⟨cnt, hp5, hb5⟩ := q5
  simp only at R5 HLS HBK HOK
  clear hq HLC HRS HP0
  cases hb5 with
  | true =>
    have h0 := HBK.out rfl
    subst h0
    obtain ⟨p6, hb6, _⟩ := R5.out
    have x2 : wc.cell? ⟨rb, 2, none⟩ = some (.int .i64 (hp5 : Int)) := hb6.cell 2
    have d0 : decide ((hp5 : Int) < 0) = false := by simp
    have d1 : ¬ ((hp5 : Int) < 0) := by omega
    clear hb6
    go_wp2_with fail
    go_loopw [7, 8] (fun r7 ri wr => ri = .int .i64 0 ∧ r7 = .slice none 0 0 ∧ wc = wr) (fun _ _ _ => 0)
    case atStart => exact ⟨rfl, rfl, rfl⟩
    case round =>
      obtain ⟨rfl, rfl, hw⟩ := hrel
      subst hw
      by_cases hm0 : (0 : Int) < (m : Int)
      · have d3 : decide ((0 : Int) < (m : Int)) = true := by simp; omega
        have d4 : decide (0 < m) = true := by simp; omega
        go_wp2_with fail
        go_ret
        rw [HLS.out]
        exact ⟨none, 0, 0, rfl, At.nil _ _ _, R5.out, T5.out, fun a ha => by cases ha⟩
      · have d3 : decide ((0 : Int) < (m : Int)) = false := by simp; omega
        have d4 : decide (0 < m) = false := by simp; omega
        go_wp2_with fail
        go_ret
        rw [HLS.out]
        exact ⟨none, 0, 0, rfl, At.nil _ _ _, R5.out, T5.out, fun a ha => by cases ha⟩
  | false =>
    obtain ⟨hcm, hpn, hfit⟩ := HOK.out rfl
    subst hcm
    have HFIT := hide hfit
    have hpn5 := hpn
    clear HOK HBK
    go_wp2_with fail
    go_loopw [7, 8] (fun r7 ri wr => ∃ k : Nat, k ≤ cnt ∧ ri = .int .i64 k ∧ Hid (Own wr w.heap.size 3 1 e64 r7 (nmL b ⟨hp5, false⟩ k).1) ∧ Hid (RdrB wr rb A n c (nmL b ⟨hp5, false⟩ k).2) ∧ Hid (Tw w wr rb none)) (fun _ ri _ => cnt - (intOf ri).toNat)
    case atStart => exact ⟨0, by omega, rfl, hide (Own.nil _ _ _ _ _), R5, T5⟩
    case round =>
      obtain ⟨k, hk, rfl, HO, HR, HT⟩ := hrel
      have hst := nmL_ok HFIT.out k hk
      have hbi : badI (nmL b ⟨hp5, false⟩ k).2 = -1 := by rw [hst]; rfl
      obtain ⟨p6, hb6, _⟩ := HR.out
      rw [hbi] at hb6
      have x2 : wr.cell? ⟨rb, 2, none⟩ = some (.int .i64 (-1)) := hb6.cell 2
      clear hb6 hbi
      by_cases hlt : k < cnt
      · have HSU : Hid ((nmL b ⟨hp5, false⟩ (k + 1)).1 = (nmL b ⟨hp5, false⟩ k).1 ++ [IntKind.i64.wrap ((rdN b 8 (nmL b ⟨hp5, false⟩ k).2).1 : Int)] ∧ (nmL b ⟨hp5, false⟩ (k + 1)).2 = (rdN b 8 (nmL b ⟨hp5, false⟩ k).2).2) := hide ⟨rfl, rfl⟩
        have hlk : (nmL b ⟨hp5, false⟩ k).1.length = k := nmL_len _ _ _
        have i8 : IntKind.i64.wrap ((k : Int) + 1) = (k : Int) + 1 := by rw [IntKind.wrap_i64]; omega
        have i1 : (k : Int) < (cnt : Int) := by omega
        have i2 : decide ((k : Int) < (cnt : Int)) = true := by simp; omega
        have i3 : decide (k < cnt) = true := by simp; omega
        have S1 : Hid ((nmL b ⟨hp5, false⟩ k).1.length + 1 ≤ maxLen) := hide (by rw [hlk]; unfold maxLen; omega)
        have S2 : Hid (((nmL b ⟨hp5, false⟩ k).1.length + 1) * 8 ≤ 140737488355328) := hide (by rw [hlk]; omega)
        have HRL := HO.out.lt
        have HNR : Hid (∀ g, u7.ownBlock = some g → w.heap.size ≤ g ∧ g ≠ rb) := hide (fun g hg => ⟨(HRL g hg).1, by have := (HRL g hg).1; omega⟩)
        have HN8 := hide (HNM.out _ _ HR.out HT.out (by rw [hst]; show hp5 + 8 * k ≤ n; have := HL.out; have := HFIT.out; omega))
        have HS8 : Hid (sgnR (tkL b 8 (nmL b ⟨hp5, false⟩ k).2) = IntKind.i64.wrap ((rdN b 8 (nmL b ⟨hp5, false⟩ k).2).1 : Int)) := hide sgnR8
        generalize IntKind.i64.wrap ((rdN b 8 (nmL b ⟨hp5, false⟩ k).2).1 : Int) = xv at *
        clear hst hlk HRL
        go_wp2_with fail
        with_reducible refine HN8.out.mono ?_
        rintro e w6 ⟨⟨T6_, tc6, rfl, a6⟩, b6, t6⟩
        have R6 := hide b6
        have T6 := hide (HT.out.trans t6)
        have O6 := hide (HO.out.tw t6 (fun e => (HNR.out rb e).2 rfl) (fun g _ e => by cases e))
        have HSG := hide (signed_any a6 (by omega))
        have S3 : Hid (w.heap.size ≤ (w6.alloc (.cells #[.int .i64 xv] 3)).heap.size) := hide (by have := T6.out.size; rw [World.size_alloc]; omega)
        clear b6 t6 HN8 a6
        go_wp2_with fail
        with_reducible refine HSG.out.mono ?_
        rintro e w' ⟨rfl, rfl⟩
        rw [HS8.out]
        go_wp2_with (at_builtin; refine wpList_append_at _ rfl (.tmp 56) (.tmp 60) 70 rfl w.heap.size 3 i0_ _ 8 Try.underlying70 hi0 hz0 hz1 hz2 rfl (by omega) len_e64 one_e64 _ _ (by rfl) (O6.out.ext (Ext.alloc _ _)) (some ⟨w6.heap.size, 0, none⟩) 1 1 [xv] (by rfl) (At.new1 w6 xv _ rfl _) S1.out S2.out S3.out ?_; intro v7 w7 o7 g7 _ _; have O7 := hide o7; have G7 := hide g7; clear o7 g7)
        exact ⟨⟨k + 1, by omega, by go_num, hide (by rw [HSU.out.1]; exact O7.out), hide (by rw [HSU.out.2]; exact (R6.out.ext (Ext.alloc _ _)).grown G7.out (fun e => (HNR.out rb e.symm).2 rfl)), hide ((T6.out.trans (Tw.of_ext (Ext.alloc _ _) _ _)).row G7.out (fun g hg => .inl (HNR.out g hg).1))⟩, by simp [intOf]; omega⟩
      · obtain rfl : k = cnt := by omega
        have i1 : ¬ (k : Int) < (k : Int) := by omega
        obtain ⟨vA, vc, hv, hat⟩ := HO.out.at_ len_e64
        have HAT := hide hat
        have HLT := HO.out.lt
        subst hv
        clear hlt hat
        go_wp2_with fail
        go_ret
        rw [HLS.out]
        exact ⟨_, _, _, rfl, HAT.out, HR.out, HT.out, fun a ha => by subst ha; exact (HLT a.block rfl).1⟩
set_option linter.unusedVariables false in
set_option maxRecDepth 100000 in
set_option maxHeartbeats 8000000 in
theorem runsOf_any {T : Option Addr} {N tc : Nat} {l : List Int} {w : World} (h : At w 1 e64 T N tc l) (hN : N ≤ 1000000) :
    Calls Try.prog 104 #[.slice T N tc] w fun e w' => ∃ T' k tc', e = .returned (.slice T' k tc') ∧ At w' 2 e2 T' k tc' (prL l) ∧ Ext w w' ∧ ∀ a, T' = some a → w.heap.size ≤ a.block := by
  have A1 := hide h
  have HNL := hide h.len
  have hfew := hN
  obtain ⟨i0_, hi0, hz0, hz1, hz2⟩ := info_parts Try.info119
  clear h
  go_enter Try.func104, Try.ntmps104
  obtain ⟨w1, hw1⟩ : ∃ w1, w1 = w := ⟨_, rfl⟩
  subst hw1
  go_wp2_with fail
  go_loopw [3, 4] (fun r4 ri wr => ∃ k i : Nat, i = 2 * k ∧ k ≤ N / 2 ∧ ri = .int .i64 i ∧ Hid (Own wr w1.heap.size 119 2 e2 r4 (prK l k)) ∧ Hid (Ext w1 wr)) (fun _ ri _ => N + 2 - (intOf ri).toNat)
  case atStart => exact ⟨0, 0, rfl, Nat.zero_le _, rfl, hide (Own.nil _ _ _ _ _), hide (Ext.refl _)⟩
  case round =>
    obtain ⟨k, i, hik, hk, rfl, HO, HX⟩ := hrel
    have i8 : IntKind.i64.wrap ((i : Int) + 1) = (i : Int) + 1 := by rw [IntKind.wrap_i64]; omega
    have i9 : IntKind.i64.wrap ((i : Int) + 2) = (i : Int) + 2 := by rw [IntKind.wrap_i64]; omega
    by_cases hlt : i + 1 < N
    · obtain ⟨bT, oT, rfl, _⟩ := A1.out.addr (by omega)
      have hat := A1.out.ext HX.out
      have a0 := hat.num (k := i) (by omega)
      have a1 := hat.num (k := i + 1) (by omega)
      have HSU : Hid (prK l (k + 1) = prK l k ++ [(l.getD i 0, l.getD (i + 1) 0)]) := hide (by rw [prK_succ, hik])
      have c0 := A1.out.num (k := i) (by omega)
      have c1 := A1.out.num (k := i + 1) (by omega)
      generalize l.getD i 0 = x at *
      generalize l.getD (i + 1) 0 = y at *
      have i1 : (i : Int) + 1 < (N : Int) := by omega
      have i2 : (i : Int) < (N : Int) := by omega
      have i0 : (0 : Int) ≤ (i : Int) := by omega
      have i3 : ((i : Int) + 1).toNat = i + 1 := by omega
      have i4 : (0 : Int) ≤ (i : Int) + 1 := by omega
      have hlk : (prK l k).length = k := prK_len _ _
      have S1 : Hid ((prK l k).length + 1 ≤ maxLen) := hide (by rw [hlk]; unfold maxLen; omega)
      have S2 : Hid (((prK l k).length + 1) * 16 ≤ 140737488355328) := hide (by rw [hlk]; omega)
      have S3 : Hid (w1.heap.size ≤ (wr.drew.alloc (.cells #[.int .i64 x, .int .i64 y] 119)).heap.size) := hide (by have := HX.out.size; rw [World.size_alloc]; show w1.heap.size ≤ wr.heap.size + 1; omega)
      have HK := hide (And.intro hik (half_lt hik hlt))
      clear hat hlk hik
      go_upto_region 5 with (fail)
      go_region_held3 (fun w' => w'.cell? ⟨bT, oT + i, none⟩ = some (.int .i64 x) ∧ w'.cell? ⟨bT, oT + (i + 1), none⟩ = some (.int .i64 y)) (first | go_keep | exact ⟨(Ext.alloc _ _).cell a0, (Ext.alloc _ _).cell a1⟩ | exact ⟨E7.cell c0, E7.cell c1⟩) (first
        | ((refine step_append_at rfl (.tmp 12) (.tmp 23) 69 rfl w1.heap.size 119 i0_ _ 16 Try.underlying69 hi0 hz0 hz1 hz2 rfl (by omega) len_e2 one_e2 _ _ (by simp [Act.eval]) (HO.out.ext (Ext.trans (Ext.drew _) (Ext.alloc _ _))) (some ⟨wr.drew.heap.size, 0, none⟩) 1 1 [(x, y)] (by simp [Act.eval]) (At.pair1 wr.drew x y _) S1.out S2.out S3.out ?_); intro v7 w7 o7 g7 _ _; have O7 := hide o7; have E7 : Ext w1 w7 := Own.below (HO.out.ext (Ext.trans (Ext.drew _) (Ext.alloc _ _))) (Ext.trans HX.out (Ext.trans (Ext.drew _) (Ext.alloc _ _))) g7 (Nat.le_refl _); clear o7 g7))
      all_goals go_wp2_with fail
      exact ⟨⟨k + 1, i + 2, by have := HK.out.1; omega, HK.out.2, by go_num, hide (by rw [HSU.out]; exact O7.out), hide E7⟩, by simp [intOf]; omega⟩
    · have hk2 : k = N / 2 := by omega
      have i1 : ¬ (i : Int) + 1 < (N : Int) := by omega
      have HE : Hid (prL l = prK l k) := hide (by unfold prL; rw [HNL.out, hk2])
      have HKK := hide hk2
      clear hk2
      obtain ⟨vA, vc, hv, hat⟩ := HO.out.at_ len_e2
      have HAT := hide hat
      have HLT := HO.out.lt
      subst hv
      clear hlt hat
      go_wp2_with fail
      go_ret
      rw [HE.out]
      exact ⟨_, _, _, rfl, HAT.out, HX.out, fun a ha => by subst ha; exact (HLT a.block rfl).1⟩
end Go.Proofs.Ytlonhkjplijlcaa
