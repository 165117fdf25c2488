/- Several texts in one: Walks: list and runs of the program's source. Conditions as stated; Walks: appendList, runNumbers (program). Conditions as stated; Walk: runs of the program's source. Conditions as stated; Walk: values (reference). Conditions as stated; Tables in plain words: how many samples a chunk has, and that both ways of counting them agree. Plain. -/
import Derived.Test.YtlonhkjplijlcaaMrg05
import Derived.Test.YtlonhkjplijlcaaMrg06
import Derived.Test.YtlonhkjplijlcaaMrg02
import Derived.Deep.DeepCutAuto
import Derived.StillTailTactics
namespace Go.Proofs.Ytlonhkjplijlcaa
open Go.RowKit
theorem Try.info3 : (Try.prog.info? 3).map (fun i => (i.zero, i.size, i.bytes)) = some (some (.int .i64 0), 1, 8) := by kernel_rfl
/-- What list gives. -/
def LsGives (w : World) (sb : Nat) (A : Option Addr) (n c : Nat) (r : List Int × Rd) (e : Ending) (w' : World) : Prop :=
  ∃ T k tc, e = .returned (.slice T k tc) ∧ At w' 1 e64 T k tc r.1 ∧ Blk w' sb 157 (srcC A n c r.2) ∧ Tw w w' sb none ∧ ∀ a, T = some a → w.heap.size ≤ a.block
set_option linter.unusedVariables false in
set_option maxRecDepth 100000 in
set_option maxHeartbeats 8000000 in
theorem srcList_any {sb : Nat} {A : Option Addr} {n c each : Nat} {z : Int} {b : List UInt8} {s : Rd} {w : World} (hB : Blk w sb 157 (srcC A n c s)) (h : At w 1 e8 A n c b) (hne : 0 < n → ∀ a, A = some a → a.block ≠ sb) (hp : s.pos ≤ n) (hz : (each : Int) = z) (he : 1 ≤ each ∧ each ≤ 2) :
    Calls Try.prog 100 #[.pointer (some ⟨sb, 0, none⟩), .int .i64 z] w (LsGives w sb A n c (lsF b each s)) := by
  have hl := h.len
  have hbd := h.bound
  have HB := hide hB
  have H := hide h
  have HL := hide hl
  have HNE := hide hne
  have hsb := hB.lt
  obtain ⟨i0_, hi0, hz0, hz1, hz2⟩ := info_parts Try.info3
  have HC4 := hide (srcN 4 4 rfl hB h hne hp (by omega))
  have HNM := hide (fun (W : World) (q : Rd) (hR : Blk W sb 157 (srcC A n c q)) (hT : Tw w W sb none) (hq : q.pos ≤ n) => srcN 8 8 rfl hR (h.twn hT hne) hne hq (by omega))
  have hv : (rdN b 4 s).1 < 4294967296 := rdN_lt (b := b) (k := 4) s (by omega)
  have hqp : (rdN b 4 s).2.pos ≤ n := by have := rdN_pos (b := b) (k := 4) (s := s) (by omega); omega
  have HLC := hide (lsH_cases b each s)
  have hx1 : w.cell? ⟨sb, 1, none⟩ = some (.int .i64 (s.pos : Int)) := hB.cell 1
  clear hB h hne
  generalize hr : rdN b 4 s = r at *
  obtain ⟨v, qp, qb⟩ := r
  simp only at hv hqp HLC HC4
  clear hr
  go_enter Try.func100, Try.ntmps100
  go_wp2_with fail
  with_reducible refine HC4.out.mono ?_
  rintro e w3 ⟨rfl, b3, t3⟩
  have B3 := hide b3
  have T3 := hide t3
  have u0 : IntKind.i64.wrap (v : Int) = (v : Int) := by rw [IntKind.wrap_i64]; omega
  have x0 : w3.cell? ⟨sb, 0, none⟩ = some (.slice A n c) := b3.cell 0
  have x1 : w3.cell? ⟨sb, 1, none⟩ = some (.int .i64 (qp : Int)) := b3.cell 1
  have x2 : w3.cell? ⟨sb, 2, none⟩ = some (.bool qb) := b3.cell 2
  have z1 : w3.frozen? ⟨sb, 1, none⟩ = false := b3.frozen 1
  have z2 : w3.frozen? ⟨sb, 2, none⟩ = false := b3.frozen 2
  obtain ⟨m, hm⟩ : ∃ m, m = v * each := ⟨_, rfl⟩
  have hmb : m ≤ 8589934592 := by
    have : v * each ≤ v * 2 := Nat.mul_le_mul_left _ he.2
    omega
  rw [← hm] at HLC
  have hmi : (v : Int) * z = (m : Int) := by rw [hm, ← hz]; push_cast; rfl
  have u1 : IntKind.i64.wrap ((v : Int) * z) = (m : Int) := by rw [hmi, IntKind.wrap_i64]; omega
  have u2 : IntKind.i64.wrap ((m : Int) * 8) = (m : Int) * 8 := by rw [IntKind.wrap_i64]; omega
  have u3 : IntKind.i64.wrap ((n : Int) - (qp : Int)) = (n : Int) - (qp : Int) := by rw [IntKind.wrap_i64]; omega
  have hsz3 := t3.size
  clear b3 t3 hx1 HC4 HB hm hz he
  go_upto_region 3 with (fail)
  go_cut [36] (fun sv wx => sv = .bool (decide (qb = false ∧ n - qp < m * 8)) ∧ w3.drew = wx)
  case first =>
    cases qb with
    | true =>
      go_region
      go_wp2_with fail
      go_meet
      exact ⟨by simp, by first | rfl | trivial⟩
    | false =>
      have HD : Hid (decide ((false = false) ∧ n - qp < m * 8) = decide ((n : Int) - (qp : Int) < (m : Int) * 8)) := hide (by rw [decide_eq_decide]; simp; omega)
      go_region
      go_wp2_with fail
      go_meet
      exact ⟨by rw [HD.out], by first | rfl | trivial⟩
  case rest =>
  obtain ⟨rfl, hw⟩ := hcut
  have B4 : Hid (Blk wc sb 157 (srcC A n c ⟨qp, qb⟩)) := hide (by rw [← hw]; exact B3.out.drew)
  have T4 : Hid (Tw w wc sb none) := hide (by rw [← hw]; exact T3.out.drew)
  have x1 : wc.cell? ⟨sb, 1, none⟩ = some (.int .i64 (qp : Int)) := B4.out.cell 1
  have x2 : wc.cell? ⟨sb, 2, none⟩ = some (.bool qb) := B4.out.cell 2
  have z1 : wc.frozen? ⟨sb, 1, none⟩ = false := B4.out.frozen 1
  have z2 : wc.frozen? ⟨sb, 2, none⟩ = false := B4.out.frozen 2
  clear hw B3 T3 x0
  go_upto_if 36 with (fail)
  go_cut [] (fun wx => Hid (Blk wx sb 157 (srcC A n c (lsH b each s).2)) ∧ Hid (Tw w wx sb none))
  case first =>
    cases hd : decide (qb = false ∧ n - qp < m * 8) with
    | true =>
      have hd2 := of_decide_eq_true hd
      have HE : Hid ((lsH b each s).2 = ⟨s.pos, true⟩) := hide (by
        have h9 := HL.out
        rcases HLC.out with ⟨g1, _⟩ | ⟨_, _, g3⟩ | ⟨_, g2, _⟩
        · rw [hd2.1] at g1; cases g1
        · rw [g3]
        · exfalso; have := hd2.2; omega)
      have x2f : wc.cell? ⟨sb, 2, none⟩ = some (.bool false) := by rw [← hd2.1]; exact x2
      clear hd hd2 x2
      go_wp2_with fail
      go_meet
      exact ⟨hide (by rw [HE.out]; exact (B4.out.set_ 1 _).set_ 2 _), hide ((T4.out.trans (Tw.set_ _ _ _ _ _)).trans (Tw.set_ _ _ _ _ _))⟩
    | false =>
      have hd2 := of_decide_eq_false hd
      have HE : Hid ((lsH b each s).2 = ⟨qp, qb⟩) := hide (by
        have h9 := HL.out
        rcases HLC.out with ⟨_, g3⟩ | ⟨g1, g2, _⟩ | ⟨_, _, g3⟩
        · rw [g3]
        · exact absurd ⟨g1, by omega⟩ hd2
        · rw [g3])
      clear hd hd2
      go_wp2_with fail
      go_meet
      exact ⟨hide (by rw [HE.out]; exact B4.out), T4⟩
  case rest =>
  obtain ⟨B5, T5⟩ := hcut
  clear B4 T4 x1 x2 z1 z2
  have HLS : Hid (lsF b each s = nmL b (lsH b each s).2 (lsH b each s).1) := hide rfl
  have HBK : Hid ((lsH b each s).2.bad = true → (lsH b each s).1 = 0) := hide (fun hb => by
    rcases HLC.out with ⟨_, g3⟩ | ⟨_, _, g3⟩ | ⟨g1, _, g3⟩
    · rw [g3]
    · rw [g3]
    · rw [g3] at hb; have hb : qb = true := hb; have g1 : qb = false := g1; rw [g1] at hb; cases hb)
  have HOK : Hid ((lsH b each s).2.bad = false → (lsH b each s).1 = m ∧ (lsH b each s).2.pos ≤ n ∧ 8 * m ≤ b.length - (lsH b each s).2.pos) := hide (fun hb => by
    rcases HLC.out with ⟨g1, g3⟩ | ⟨_, _, g3⟩ | ⟨_, g2, g3⟩
    · rw [g3] at hb; have hb : qb = false := hb; have g1 : qb = true := g1; rw [g1] at hb; cases hb
    · rw [g3] at hb; cases hb
    · rw [g3]; exact ⟨rfl, hqp, by show 8 * m ≤ b.length - qp; have g2 : m * 8 ≤ b.length - qp := g2; omega⟩)
  generalize hq : lsH b each s = q at *
  obtain ⟨cnt, hp5, hb5⟩ := q
  simp only at B5 HLS HBK HOK
  clear hq HLC
  have y2 : wc.cell? ⟨sb, 2, none⟩ = some (.bool hb5) := B5.out.cell 2
  cases hb5 with
  | true =>
    have h0 := HBK.out rfl
    subst h0
    go_wp2_with fail
    go_ret
    rw [HLS.out]
    exact ⟨none, 0, 0, rfl, At.nil _ _ _, B5.out, T5.out, fun a ha => by cases ha⟩
  | false =>
    obtain ⟨hcm, hpn, hfit⟩ := HOK.out rfl
    subst hcm
    have HFIT := hide hfit
    have hpn5 := hpn
    clear HOK HBK
    go_wp2_with fail
    go_loopw [7, 51] (fun r7 ri wr => ∃ k : Nat, k ≤ cnt ∧ ri = .int .i64 k ∧ Hid (Own wr w.heap.size 3 1 e64 r7 (nmL b ⟨hp5, false⟩ k).1) ∧ Hid (Blk wr sb 157 (srcC A n c (nmL b ⟨hp5, false⟩ k).2)) ∧ Hid (Tw w wr sb none)) (fun _ ri _ => cnt - (intOf ri).toNat)
    case atStart => exact ⟨0, by omega, rfl, hide (Own.nil _ _ _ _ _), B5, T5⟩
    case round =>
      obtain ⟨k, hk, rfl, HO, HR, HT⟩ := hrel
      by_cases hlt : k < cnt
      · have hst := nmL_ok HFIT.out k hk
        have HSU : Hid ((nmL b ⟨hp5, false⟩ (k + 1)).1 = (nmL b ⟨hp5, false⟩ k).1 ++ [IntKind.i64.wrap ((rdN b 8 (nmL b ⟨hp5, false⟩ k).2).1 : Int)] ∧ (nmL b ⟨hp5, false⟩ (k + 1)).2 = (rdN b 8 (nmL b ⟨hp5, false⟩ k).2).2) := hide ⟨rfl, rfl⟩
        have hlk : (nmL b ⟨hp5, false⟩ k).1.length = k := nmL_len _ _ _
        have i8 : IntKind.i64.wrap ((k : Int) + 1) = (k : Int) + 1 := by rw [IntKind.wrap_i64]; omega
        have i1 : (k : Int) < (cnt : Int) := by omega
        have S1 : Hid ((nmL b ⟨hp5, false⟩ k).1.length + 1 ≤ maxLen) := hide (by rw [hlk]; unfold maxLen; omega)
        have S2 : Hid (((nmL b ⟨hp5, false⟩ k).1.length + 1) * 8 ≤ 140737488355328) := hide (by rw [hlk]; omega)
        have HRL := HO.out.lt
        have HNR : Hid (∀ g, u7.ownBlock = some g → w.heap.size ≤ g ∧ g ≠ sb) := hide (fun g hg => ⟨(HRL g hg).1, by have := (HRL g hg).1; omega⟩)
        have HN8 := hide (HNM.out _ _ HR.out HT.out (by rw [hst]; show hp5 + 8 * k ≤ n; have := HL.out; have := HFIT.out; omega))
        obtain ⟨xv, hxv⟩ : ∃ xv, xv = IntKind.i64.wrap ((rdN b 8 (nmL b ⟨hp5, false⟩ k).2).1 : Int) := ⟨_, rfl⟩
        rw [← hxv] at HSU
        have ux : IntKind.i64.wrap ((rdN b 8 (nmL b ⟨hp5, false⟩ k).2).1 : Int) = xv := hxv.symm
        clear hst hlk HRL hxv
        go_wp2_with fail
        with_reducible refine HN8.out.mono ?_
        rintro e w6 ⟨rfl, b6, t6⟩
        have R6 := hide b6
        have T6 := hide (HT.out.trans t6)
        have O6 := hide (HO.out.tw t6 (fun e => (HNR.out sb e).2 rfl) (fun g _ e => by cases e))
        have S3 : Hid (w.heap.size ≤ (w6.alloc (.cells #[.int .i64 xv] 3)).heap.size) := hide (by have := T6.out.size; rw [World.size_alloc]; omega)
        clear b6 t6 HN8
        go_wp2_with (at_builtin; refine wpList_append_at _ rfl (.tmp 53) (.tmp 57) 70 rfl w.heap.size 3 i0_ _ 8 Try.underlying70 hi0 hz0 hz1 hz2 rfl (by omega) len_e64 one_e64 _ _ (by rfl) (O6.out.ext (Ext.alloc _ _)) (some ⟨w6.heap.size, 0, none⟩) 1 1 [xv] (by rfl) (At.new1 w6 xv _ rfl _) S1.out S2.out S3.out ?_; intro v7 w7 o7 g7 _ _; have O7 := hide o7; have G7 := hide g7; clear o7 g7)
        exact ⟨⟨k + 1, by omega, by go_num, hide (by rw [HSU.out.1]; exact O7.out), hide (by rw [HSU.out.2]; exact (R6.out.ext (Ext.alloc _ _)).grown G7.out (fun e => (HNR.out sb e.symm).2 rfl)), hide ((T6.out.trans (Tw.of_ext (Ext.alloc _ _) _ _)).row G7.out (fun g hg => .inl (HNR.out g hg).1))⟩, by simp [intOf]; omega⟩
      · obtain rfl : k = cnt := by omega
        obtain ⟨vA, vc, hv, hat⟩ := HO.out.at_ len_e64
        have HAT := hide hat
        have HLT := HO.out.lt
        subst hv
        clear hlt hat
        go_wp2_with fail
        go_ret
        rw [HLS.out]
        exact ⟨_, _, _, rfl, HAT.out, HR.out, HT.out, fun a ha => by subst ha; exact (HLT a.block rfl).1⟩
end Go.Proofs.Ytlonhkjplijlcaa
namespace Go.Proofs.Ytlonhkjplijlcaa
open Go.RowKit
set_option linter.unusedVariables false in
set_option maxRecDepth 100000 in
set_option maxHeartbeats 4000000 in
/-- A row that has grown: its old block, or a new one. -/
structure Grw (w w' : World) (v v' : Value) : Prop where
  grown : w.grownBy w' v.ownBlock
  row : v'.ownBlock = v.ownBlock ∨ ∃ g, v'.ownBlock = some g ∧ w.heap.size ≤ g
theorem Grw.refl (w : World) (v : Value) : Grw w w v v := ⟨World.grownBy.refl w _, .inl rfl⟩
theorem Grw.trans {a b c : World} {u v x : Value} (h : Grw a b u v) (k : Grw b c v x) : Grw a c u x := by
  refine ⟨⟨k.grown.os.trans h.grown.os, k.grown.tape.trans h.grown.tape, k.grown.output.trans h.grown.output, Nat.le_trans h.grown.size k.grown.size, fun q hq hr => (k.grown.block q (Nat.lt_of_lt_of_le hq h.grown.size) (fun e => ?_)).trans (h.grown.block q hq hr)⟩, ?_⟩
  · rcases h.row with h1 | ⟨g, h1, h2⟩
    · exact hr (e.trans h1)
    · rw [h1] at e; have := Option.some.inj e; omega
  · rcases k.row with h1 | ⟨g, h1, h2⟩
    · rcases h.row with h3 | ⟨g, h3, h4⟩
      · exact .inl (h1.trans h3)
      · exact .inr ⟨g, h1.trans h3, h4⟩
    · exact .inr ⟨g, h1, Nat.le_trans h.grown.size h2⟩
theorem Grw.of {w w' : World} {v v' : Value} (hg : w.grownBy w' v.ownBlock) (hr : v'.ownBlock = v.ownBlock ∨ v'.ownBlock = some w.heap.size) : Grw w w' v v' :=
  ⟨hg, by rcases hr with h | h
          · exact .inl h
          · exact .inr ⟨_, h, Nat.le_refl _⟩⟩
theorem At.grow {α : Type} {w w' : World} {sz : Nat} {enc : α → List Value} {A : Option Addr} {n c : Nat} {xs : List α} {row : Option Nat} (h : At w sz enc A n c xs) (hg : w.grownBy w' row) (hr : ∀ a, A = some a → some a.block ≠ row) : At w' sz enc A n c xs :=
  ⟨h.len, h.le, h.max, h.none_, fun k x hx => by
    obtain ⟨b, off, e, hc⟩ := h.cells k x hx
    have h2 := hr _ e
    refine ⟨b, off, e, fun j u hu => ?_⟩
    have h3 := hc j u hu
    have h4 := hg.block b (by have := cell_lt h3; simpa using this) h2
    unfold World.cell? at h3 ⊢
    simp only at h3 ⊢
    rw [h4]
    exact h3⟩
end Go.Proofs.Ytlonhkjplijlcaa
namespace Go.Proofs.Ytlonhkjplijlcaa
open Go.RowKit
theorem Try.info119 : (Try.prog.info? 119).map (fun i => (i.zero, i.size, i.bytes)) = some (some (.agg #[.int .i64 0, .int .i64 0]), 2, 16) := by kernel_rfl
/-- What runs gives. -/
def RnGives (w : World) (sb : Nat) (A : Option Addr) (n c : Nat) (l : List (Int × Int)) (q : Rd) (e : Ending) (w' : World) : Prop :=
  ∃ T k tc, e = .returned (.slice T k tc) ∧ At w' 2 e2 T k tc l ∧ Blk w' sb 157 (srcC A n c q) ∧ Tw w w' sb none ∧ ∀ a, T = some a → w.heap.size ≤ a.block
theorem half_lt {i k N : Nat} (hi : i = 2 * k) (h : i + 1 < N) : k + 1 ≤ N / 2 := by omega
set_option linter.unusedVariables false in
set_option maxRecDepth 100000 in
set_option maxHeartbeats 8000000 in
theorem srcRuns_any {sb : Nat} {A : Option Addr} {n c : Nat} {b : List UInt8} {s : Rd} {w : World} (hB : Blk w sb 157 (srcC A n c s)) (h : At w 1 e8 A n c b) (hne : 0 < n → ∀ a, A = some a → a.block ≠ sb) (hp : s.pos ≤ n) (hn : n ≤ 1000000) :
    Calls Try.prog 99 #[.pointer (some ⟨sb, 0, none⟩)] w (RnGives w sb A n c (prL (lsF b 2 s).1) (lsF b 2 s).2) := by
  have HLS := hide (srcList_any hB h hne hp (z := 2) (each := 2) rfl (by omega))
  have hsb := hB.lt
  have hfew := lsH_few b 2 s
  rw [h.len, ← lsF_len] at hfew
  obtain ⟨i0_, hi0, hz0, hz1, hz2⟩ := info_parts Try.info119
  clear hB h hne
  go_enter Try.func99, Try.ntmps99
  go_wp2_with fail
  with_reducible refine HLS.out.mono ?_
  rintro e w1 ⟨T, N, tc, rfl, a1, b1, t1, l1⟩
  have A1 := hide a1
  have B1 := hide b1
  have T1 := hide t1
  have L1 := hide l1
  have hNl := a1.len
  rw [hNl] at hfew
  have hsz1 := t1.size
  generalize (lsF b 2 s).2 = q at *
  generalize (lsF b 2 s).1 = l at *
  have HNL := hide hNl
  clear a1 b1 t1 l1 HLS hNl
  go_wp2_with fail
  go_loopw [4, 5] (fun r4 ri wr => ∃ k i : Nat, i = 2 * k ∧ k ≤ N / 2 ∧ ri = .int .i64 i ∧ Hid (Own wr w1.heap.size 119 2 e2 r4 (prK l k)) ∧ Hid (Ext w1 wr)) (fun _ ri _ => N + 2 - (intOf ri).toNat)
  case atStart => exact ⟨0, 0, rfl, Nat.zero_le _, rfl, hide (Own.nil _ _ _ _ _), hide (Ext.refl _)⟩
  case round =>
    obtain ⟨k, i, hik, hk, rfl, HO, HX⟩ := hrel
    have i8 : IntKind.i64.wrap ((i : Int) + 1) = (i : Int) + 1 := by rw [IntKind.wrap_i64]; omega
    have i9 : IntKind.i64.wrap ((i : Int) + 2) = (i : Int) + 2 := by rw [IntKind.wrap_i64]; omega
    by_cases hlt : i + 1 < N
    · obtain ⟨bT, oT, rfl, _⟩ := A1.out.addr (by omega)
      have hat := A1.out.ext HX.out
      have a0 := hat.num (k := i) (by omega)
      have a1 := hat.num (k := i + 1) (by omega)
      have HSU : Hid (prK l (k + 1) = prK l k ++ [(l.getD i 0, l.getD (i + 1) 0)]) := hide (by rw [prK_succ, hik])
      have c0 := A1.out.num (k := i) (by omega)
      have c1 := A1.out.num (k := i + 1) (by omega)
      generalize l.getD i 0 = x at *
      generalize l.getD (i + 1) 0 = y at *
      have i1 : (i : Int) + 1 < (N : Int) := by omega
      have i2 : (i : Int) < (N : Int) := by omega
      have i0 : (0 : Int) ≤ (i : Int) := by omega
      have i3 : ((i : Int) + 1).toNat = i + 1 := by omega
      have i4 : (0 : Int) ≤ (i : Int) + 1 := by omega
      have hlk : (prK l k).length = k := prK_len _ _
      have S1 : Hid ((prK l k).length + 1 ≤ maxLen) := hide (by rw [hlk]; unfold maxLen; omega)
      have S2 : Hid (((prK l k).length + 1) * 16 ≤ 140737488355328) := hide (by rw [hlk]; omega)
      have S3 : Hid (w1.heap.size ≤ (wr.drew.alloc (.cells #[.int .i64 x, .int .i64 y] 119)).heap.size) := hide (by have := HX.out.size; rw [World.size_alloc]; show w1.heap.size ≤ wr.heap.size + 1; omega)
      have HK := hide (And.intro hik (half_lt hik hlt))
      clear hat hlk hik
      go_upto_region 6 with (fail)
      go_region_held3 (fun w' => w'.cell? ⟨bT, oT + i, none⟩ = some (.int .i64 x) ∧ w'.cell? ⟨bT, oT + (i + 1), none⟩ = some (.int .i64 y)) (first | go_keep | exact ⟨(Ext.alloc _ _).cell a0, (Ext.alloc _ _).cell a1⟩ | exact ⟨E7.cell c0, E7.cell c1⟩) (first
        | ((refine step_append_at rfl (.tmp 15) (.tmp 26) 69 rfl w1.heap.size 119 i0_ _ 16 Try.underlying69 hi0 hz0 hz1 hz2 rfl (by omega) len_e2 one_e2 _ _ (by simp [Act.eval]) (HO.out.ext (Ext.trans (Ext.drew _) (Ext.alloc _ _))) (some ⟨wr.drew.heap.size, 0, none⟩) 1 1 [(x, y)] (by simp [Act.eval]) (At.pair1 wr.drew x y _) S1.out S2.out S3.out ?_); intro v7 w7 o7 g7 _ _; have O7 := hide o7; have E7 : Ext w1 w7 := Own.below (HO.out.ext (Ext.trans (Ext.drew _) (Ext.alloc _ _))) (Ext.trans HX.out (Ext.trans (Ext.drew _) (Ext.alloc _ _))) g7 (Nat.le_refl _); clear o7 g7))
      all_goals go_wp2_with fail
      exact ⟨⟨k + 1, i + 2, by have := HK.out.1; omega, HK.out.2, by go_num, hide (by rw [HSU.out]; exact O7.out), hide E7⟩, by simp [intOf]; omega⟩
    · have hk2 : k = N / 2 := by omega
      have i1 : ¬ (i : Int) + 1 < (N : Int) := by omega
      have HE : Hid (prL l = prK l k) := hide (by unfold prL; rw [HNL.out, hk2])
      have HKK := hide hk2
      clear hk2
      obtain ⟨vA, vc, hv, hat⟩ := HO.out.at_ len_e2
      have HAT := hide hat
      have HLT := HO.out.lt
      subst hv
      clear hlt hat
      go_wp2_with fail
      go_ret
      rw [HE.out]
      exact ⟨_, _, _, rfl, HAT.out, B1.out.ext HX.out, T1.out.trans (Tw.of_ext HX.out _ _), fun a ha => by subst ha; have := (HLT a.block rfl).1; omega⟩
end Go.Proofs.Ytlonhkjplijlcaa
namespace Go.Proofs.Ytlonhkjplijlcaa
open Go.RowKit
/-- The numbers of runs, one by one. -/
def valsR (l : List (Int × Int)) : List Int := l.flatMap fun r => List.replicate r.1.toNat r.2
theorem valsR_take {l : List (Int × Int)} {k : Nat} (h : k < l.length) : valsR (l.take (k + 1)) = valsR (l.take k) ++ List.replicate (l.getD k (0, 0)).1.toNat (l.getD k (0, 0)).2 := by
  unfold valsR; rw [getD_take l k (0, 0) h, List.flatMap_append]; simp
theorem rep_succ (j : Nat) (y : Int) (a : List Int) : a ++ List.replicate (j + 1) y = a ++ List.replicate j y ++ [y] := by
  rw [List.replicate_succ', List.append_assoc]
set_option linter.unusedVariables false in
set_option maxRecDepth 100000 in
set_option maxHeartbeats 4000000 in
theorem refValues_any {A : Option Addr} {n c : Nat} {l : List (Int × Int)} {w : World} (h : At w 2 e2 A n c l) (hn : n ≤ 1000000) (hc : ∀ k, k < n → 0 ≤ (l.getD k (0, 0)).1 ∧ (l.getD k (0, 0)).1 ≤ 1000000) (hb : ∀ k, k ≤ n → (valsR (l.take k)).length ≤ 1000000) :
    Calls Try.prog 94 #[.slice A n c] w fun e w' => ∃ v, e = .returned v ∧ Own w' w.heap.size 3 1 e64 v (valsR l) ∧ Ext w w' := by
  have H := hide h
  have HL := hide h.len
  have HCB := hide hc
  have HVB := hide hb
  obtain ⟨i0_, hi0, hz0, hz1, hz2⟩ := info_parts Try.info3
  clear h hc hb
  go_enter Try.func94, Try.ntmps94
  go_wp2_with fail
  go_loopw [3, 4] (fun r3 ri wr => ∃ k : Nat, k ≤ n ∧ ri = .int .i64 k ∧ Hid (Own wr w.heap.size 3 1 e64 r3 (valsR (l.take k))) ∧ Hid (Ext w wr)) (fun _ ri _ => n - (intOf ri).toNat)
  case atStart => exact ⟨0, by omega, rfl, hide (by simpa [valsR] using Own.nil _ _ _ _ _), hide (Ext.refl _)⟩
  case round =>
    obtain ⟨k, hk, rfl, HO, HX⟩ := hrel
    by_cases hlt : k < n
    · obtain ⟨b, off, rfl, _⟩ := H.out.addr (by omega)
      have HPR := hide (fun (W : World) (hW : Ext w W) => (H.out.ext hW).pair hlt)
      have HSU := hide (valsR_take (l := l) (k := k) (by have := HL.out; omega))
      obtain ⟨hx0, hx1⟩ := HCB.out k hlt
      have hv1 := HVB.out (k + 1) hlt
      rw [HSU.out, List.length_append, List.length_replicate] at hv1
      generalize (l.getD k (0, 0)).1 = x at *
      generalize (l.getD k (0, 0)).2 = y at *
      obtain ⟨m, rfl⟩ : ∃ m : Nat, x = (m : Int) := ⟨x.toNat, by omega⟩
      rw [Int.toNat_natCast] at HSU hv1
      obtain ⟨acc, hacc⟩ : ∃ a, a = valsR (l.take k) := ⟨_, rfl⟩
      rw [← hacc] at HSU HO hv1
      have i1 : (k : Int) < (n : Int) := by omega
      have i0 : (0 : Int) ≤ (k : Int) := by omega
      have i8 : IntKind.i64.wrap ((k : Int) + 1) = (k : Int) + 1 := by rw [IntKind.wrap_i64]; omega
      clear hacc
      go_wp2_with fail
      go_loopw [3, 5] (fun r3 rj wi => ∃ j : Nat, j ≤ m ∧ rj = .int .i64 j ∧ Hid (Own wi w.heap.size 3 1 e64 r3 (acc ++ List.replicate j y)) ∧ Hid (Ext w wi)) (fun _ rj _ => m - (intOf rj).toNat)
      case atStart => exact ⟨0, by omega, rfl, hide (by simpa using HO.out), HX⟩
      case round =>
        clear HO HX
        obtain ⟨j, hj, rfl, HO, HX⟩ := hrel
        obtain ⟨a0, a1⟩ := HPR.out _ HX.out
        by_cases hjm : j < m
        · have j1 : (j : Int) < (m : Int) := by omega
          have j0 : (0 : Int) ≤ (j : Int) := by omega
          have j8 : IntKind.i64.wrap ((j : Int) + 1) = (j : Int) + 1 := by rw [IntKind.wrap_i64]; omega
          have S1 : Hid ((acc ++ List.replicate j y).length + 1 ≤ maxLen) := hide (by rw [List.length_append, List.length_replicate]; unfold maxLen; omega)
          have S2 : Hid (((acc ++ List.replicate j y).length + 1) * 8 ≤ 140737488355328) := hide (by rw [List.length_append, List.length_replicate]; omega)
          have S3 : Hid (w.heap.size ≤ (wr.alloc (.cells #[.int .i64 y] 3)).heap.size) := hide (by have := HX.out.size; rw [World.size_alloc]; omega)
          go_wp2_with (at_builtin; refine wpList_append_at _ rfl (.tmp 21) (.tmp 27) 70 rfl w.heap.size 3 i0_ _ 8 Try.underlying70 hi0 hz0 hz1 hz2 rfl (by omega) len_e64 one_e64 _ _ (by rfl) (HO.out.ext (Ext.alloc _ _)) (some ⟨wr.heap.size, 0, none⟩) 1 1 [y] (by rfl) (At.new1 wr y _ rfl _) S1.out S2.out S3.out ?_; intro v7 w7 o7 g7 _ _; have O7 := hide o7; have G7 := hide g7; clear o7 g7)
          have E7 := hide (Own.below (HO.out.ext (Ext.alloc _ _)) (Ext.trans HX.out (Ext.alloc _ _)) G7.out (Nat.le_refl _))
          exact ⟨⟨j + 1, by omega, by go_num, hide (by rw [rep_succ]; exact O7.out), E7⟩, by simp [intOf]; omega⟩
        · obtain rfl : j = m := by omega
          go_wp2_with fail
          exact ⟨⟨k + 1, by omega, by go_num, hide (by rw [HSU.out]; exact HO.out), HX⟩, by simp [intOf]; omega⟩
    · obtain rfl : k = n := by omega
      have HTK : Hid (l.take k = l) := hide (List.take_of_length_le (by have := HL.out; omega))
      go_wp2_with fail
      go_ret
      exact ⟨_, rfl, by have := HO.out; rw [HTK.out] at this; exact this, HX.out⟩
end Go.Proofs.Ytlonhkjplijlcaa
namespace Go.Proofs.Ytlonhkjplijlcaa
/-- How many samples a chunk has, by the first runs. -/
def smOK (l : List (Int × Int)) (c : Int) : Nat → Int
  | 0 => 0
  | k + 1 => if (l.getD k (0, 0)).1 ≤ c then (l.getD k (0, 0)).2 else smOK l c k
def smO (l : List (Int × Int)) (c : Int) : Int := smOK l c l.length
/-- How many samples the first chunks have. -/
def allS (l : List (Int × Int)) : Nat → Int
  | 0 => 0
  | i + 1 => allS l i + smO l ((i : Int) + 1)
theorem smOK_bd {l : List (Int × Int)} (h : firstF (chEl l) l.length = 0) (c : Int) : ∀ k, k ≤ l.length → 0 ≤ smOK l c k ∧ smOK l c k ≤ 1000
  | 0, _ => by simp [smOK]
  | k + 1, hk => by
    have ih := smOK_bd h c k (by omega)
    have := (ch_ok h k (by omega)).1
    rw [smOK]; split <;> omega
theorem smO_bd {l : List (Int × Int)} (h : firstF (chEl l) l.length = 0) (c : Int) : 0 ≤ smO l c ∧ smO l c ≤ 1000 := smOK_bd h c _ (Nat.le_refl _)
theorem allS_bd {l : List (Int × Int)} (h : firstF (chEl l) l.length = 0) : ∀ i, 0 ≤ allS l i ∧ allS l i ≤ 1000 * (i : Int)
  | 0 => by simp [allS]
  | i + 1 => by
    have ih := allS_bd h i
    have := smO_bd h ((i : Int) + 1)
    rw [allS]; omega
theorem ch_mono {l : List (Int × Int)} (h : firstF (chEl l) l.length = 0) {i : Nat} : ∀ j, i < j → j < l.length → (l.getD i (0, 0)).1 < (l.getD j (0, 0)).1
  | 0, hij, _ => absurd hij (Nat.not_lt_zero _)
  | j + 1, hij, hj => by
    have h1 := (ch_ok h (j + 1) hj).2.2 (by omega)
    rw [show j + 1 - 1 = j by omega] at h1
    rcases Nat.lt_succ_iff_lt_or_eq.1 hij with h2 | h2
    · have := ch_mono h j h2 (by omega); omega
    · rw [h2]; exact h1
/-- The samples of a chunk are those of its run. -/
theorem smO_at {l : List (Int × Int)} (h : firstF (chEl l) l.length = 0) {k : Nat} (hk : k < l.length) {c : Int} (h1 : (l.getD k (0, 0)).1 ≤ c) (h2 : k + 1 < l.length → c < (l.getD (k + 1) (0, 0)).1) : smO l c = (l.getD k (0, 0)).2 := by
  have key : ∀ m, k < m → m ≤ l.length → smOK l c m = (l.getD k (0, 0)).2 := by
    intro m
    induction m with
    | zero => intro h3; omega
    | succ m ih =>
      intro h3 h4
      rcases Nat.lt_succ_iff_lt_or_eq.1 h3 with h5 | h5
      · have h6 := h2 (by omega)
        have h7 : ¬ (l.getD m (0, 0)).1 ≤ c := by
          rcases Nat.lt_or_ge (k + 1) m with h8 | h8
          · have := ch_mono h m h8 (by omega); omega
          · rw [show m = k + 1 by omega]; omega
        rw [smOK, if_neg h7]
        exact ih h5 (by omega)
      · subst h5
        rw [smOK, if_pos h1]
  exact key _ hk (Nat.le_refl _)
theorem allS_run {l : List (Int × Int)} {v : Int} (a : Nat) : ∀ m : Nat, (∀ c : Nat, a < c → c ≤ a + m → smO l (c : Int) = v) → allS l (a + m) = allS l a + (m : Int) * v
  | 0, _ => by simp
  | m + 1, h => by
    have ih := allS_run a m (fun c h1 h2 => h c h1 (by omega))
    have h1 := h (a + m + 1) (by omega) (by omega)
    rw [show a + (m + 1) = a + m + 1 by omega, allS, ih, show ((a + m : Nat) : Int) + 1 = ((a + m + 1 : Nat) : Int) by push_cast; rfl, h1]
    push_cast
    rw [Int.add_mul]; omega
theorem allS_first {l : List (Int × Int)} {p : Nat} (h : firstF (chEl l) l.length = 0) (hf : ¬ chForm l p) : ∀ k, k < l.length → allS l ((l.getD k (0, 0)).1 - 1).toNat = chSum l p k
  | 0, hk => by
    have := (ch_ok h 0 hk).2.1 rfl
    rw [this]; rfl
  | k + 1, hk => by
    have ih := allS_first h hf k (by omega)
    have h1 := (ch_ok h k (by omega)).1
    have h2 := ch_mono h (k + 1) (Nat.lt_succ_self k) hk
    have h3 := allS_run (l := l) (v := (l.getD k (0, 0)).2) ((l.getD k (0, 0)).1 - 1).toNat ((l.getD (k + 1) (0, 0)).1 - (l.getD k (0, 0)).1).toNat (fun c h4 h5 => smO_at h (by omega) (by omega) (fun _ => by omega))
    rw [show ((l.getD k (0, 0)).1 - 1).toNat + ((l.getD (k + 1) (0, 0)).1 - (l.getD k (0, 0)).1).toNat = ((l.getD (k + 1) (0, 0)).1 - 1).toNat by omega, ih] at h3
    rw [h3, chSum]
    have h8 : nextC l p k = (l.getD (k + 1) (0, 0)).1 := by unfold nextC; rw [if_pos hk]
    rw [h8, show ((((l.getD (k + 1) (0, 0)).1 - (l.getD k (0, 0)).1).toNat : Nat) : Int) = (l.getD (k + 1) (0, 0)).1 - (l.getD k (0, 0)).1 by omega]
/-- Both ways of counting agree. -/
theorem allS_sum {l : List (Int × Int)} {p : Nat} (h : firstF (chEl l) l.length = 0) (hf : ¬ chForm l p) : allS l p = chSum l p l.length := by
  rcases Nat.eq_zero_or_pos l.length with h0 | h0
  · have hp : p = 0 := by
      rcases Nat.eq_zero_or_pos p with h1 | h1
      · exact h1
      · exact absurd (.inl ⟨h1, h0⟩) hf
    subst hp; rw [h0]; rfl
  · obtain ⟨k, hk⟩ : ∃ k, l.length = k + 1 := ⟨l.length - 1, by omega⟩
    have h1 := allS_first h hf k (by omega)
    have h2 := (ch_ok h k (by omega)).1
    have h3 : ¬ ((p : Int) < (l.getD k (0, 0)).1) := fun hc => hf (.inr ⟨by omega, by rw [show l.length - 1 = k by omega]; exact hc⟩)
    have h4 := allS_run (l := l) (v := (l.getD k (0, 0)).2) ((l.getD k (0, 0)).1 - 1).toNat (p + 1 - (l.getD k (0, 0)).1.toNat) (fun c h5 h6 => smO_at h (by omega) (by omega) (fun _ => by omega))
    rw [show ((l.getD k (0, 0)).1 - 1).toNat + (p + 1 - (l.getD k (0, 0)).1.toNat) = p by omega, h1] at h4
    rw [h4, hk, chSum]
    have h8 : nextC l p k = (p : Int) + 1 := by unfold nextC; rw [if_neg (by omega)]
    rw [h8, show ((p + 1 - (l.getD k (0, 0)).1.toNat : Nat) : Int) = (p : Int) + 1 - (l.getD k (0, 0)).1 by omega]
/-- A run that begins behind the last chunk. -/
def behC (l : List (Int × Int)) (p i : Nat) : Bool := decide ((p : Int) < (l.getD i (0, 0)).1)
/-- The document's fault of chunks. -/
theorem chunks_doc1 {n : Int} {l : List (Int × Int)} {pl : List Int} (h : firstF (chEl l) l.length = 0) (h1 : allS l pl.length ≠ n ∨ (0 < pl.length ∧ l.length = 0)) : chunksF n l pl = 3 := by
  unfold chunksF
  rw [if_neg (by omega)]
  by_cases hf : chForm l pl.length
  · rw [if_pos hf]
  · rw [if_neg hf, if_pos]
    rcases h1 with h1 | h1
    · rw [← allS_sum h hf]; exact h1
    · exact absurd (.inl h1) hf
theorem chunks_doc2 {n : Int} {l : List (Int × Int)} {pl : List Int} (h : firstF (chEl l) l.length = 0) {i : Nat} (hi : i < l.length) (h1 : behC l pl.length i = true) : chunksF n l pl = 3 := by
  unfold chunksF
  rw [if_neg (by omega), if_pos]
  right
  refine ⟨by omega, ?_⟩
  have h2 := of_decide_eq_true h1
  rcases Nat.lt_or_ge i (l.length - 1) with h3 | h3
  · have := ch_mono h (l.length - 1) h3 (by omega); omega
  · rw [show l.length - 1 = i by omega]; exact h2
theorem chunks_doc3 {n : Int} {l : List (Int × Int)} {pl : List Int} (h : firstF (chEl l) l.length = 0) (h1 : ¬ (allS l pl.length ≠ n ∨ (0 < pl.length ∧ l.length = 0))) (h2 : ∀ i, i < l.length → behC l pl.length i = false) : chunksF n l pl = firstF (plEl pl) pl.length := by
  have hf : ¬ chForm l pl.length := by
    rintro (hc | ⟨hc, hd⟩)
    · exact h1 (.inr hc)
    · have := of_decide_eq_false (h2 (l.length - 1) (by omega)); exact this hd
  unfold chunksF
  rw [if_neg (by omega), if_neg hf, if_neg]
  rw [← allS_sum h hf]
  exact fun hc => h1 (.inl hc)
end Go.Proofs.Ytlonhkjplijlcaa
