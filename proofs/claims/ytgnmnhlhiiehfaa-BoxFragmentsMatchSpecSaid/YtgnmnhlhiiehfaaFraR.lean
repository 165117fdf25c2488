/- Walk: Fragments (reference). Conditions as stated. -/
import Derived.Test.YtgnmnhlhiiehfaaFrgP
import Derived.Test.YtgnmnhlhiiehfaaJoiR
import Derived.StillTailTactics
import Derived.Deep.DeepCutAuto
namespace Go.Proofs.Ytgnmnhlhiiehfaa
open Go.RowKit
set_option linter.unusedVariables false in
set_option maxRecDepth 100000 in
set_option maxHeartbeats 8000000 in
theorem refFragments_no {A : Option Addr} {m c : Nat} {n : Int} {l : List Smp} {w : World} (h : At w 5 eSm A m c l) (hF : frgF n l ≠ 0) :
    Calls Try.prog 27 #[.slice A m c, .int .i64 n] w fun e w' => e = .returned (.tuple #[.slice none 0 0, .int .i64 (frgF n l)]) ∧ Ext w w' := by
  have hc := refSamples_any h
  have HC := hide hc
  by_cases hs : smpF l = 0
  · have hr : n < 1 ∨ 5000 < n := by
      unfold frgF at hF
      rw [if_neg (by simp [hs])] at hF
      split at hF
      · assumption
      · exact absurd rfl hF
    have HV : Hid (frgF n l = 1) := hide (by unfold frgF; rw [if_neg (by simp [hs]), if_pos hr])
    have HO := hide (fun (W : World) => within_no (lo := 1) (hi := 5000) hr W)
    rw [hs] at HC
    clear h hF hc hs hr
    go_enter Try.func27, Try.ntmps27
    go_wp2_with fail
    with_reducible refine HC.out.mono ?_
    rintro e w1 ⟨rfl, e1⟩
    have E1 := hide e1
    clear e1
    go_wp2_with fail
    with_reducible refine (HO.out _).mono ?_
    rintro e w' ⟨rfl, rfl⟩
    go_wp2_with fail
    refine bodyPost_ret (v := .tuple #[.slice none 0 0, .int .i64 1]) (by simp [results, Try.results27, go_sem]) rfl ⟨by rw [HV.out], E1.out⟩
  · have HV : Hid (frgF n l = smpF l) := hide (by unfold frgF; rw [if_pos hs])
    obtain ⟨fx, hfx⟩ : ∃ fx, fx = smpF l := ⟨_, rfl⟩
    rw [← hfx] at HC HV
    have d0 : (fx != 0) = true := by rw [hfx]; simp [hs]
    clear h hF hc hs hfx
    go_enter Try.func27, Try.ntmps27
    go_wp2_with fail
    with_reducible refine HC.out.mono ?_
    rintro e w1 ⟨rfl, e1⟩
    have E1 := hide e1
    clear e1
    go_wp2_with fail
    refine bodyPost_ret (v := .tuple #[.slice none 0 0, .int .i64 fx]) (by simp [results, Try.results27, go_sem]) rfl ⟨by rw [HV.out], E1.out⟩
set_option linter.unusedVariables false in
set_option maxRecDepth 100000 in
set_option maxHeartbeats 8000000 in
theorem refFragments_ok {A : Option Addr} {m c n : Nat} {l : List Smp} {w : World} (h : At w 5 eSm A m c l) (hF : smpF l = 0) (hn : 1 ≤ n ∧ n ≤ 5000) :
    Calls Try.prog 27 #[.slice A m c, .int .i64 (n : Int)] w (FrgGives w n l) := by
  have hl := h.len
  have hm : m ≤ 5000 := by have := (smpF_zero hF).1; omega
  have hc := refSamples_any h
  rw [hF] at hc
  have HC := hide hc
  have H := hide h
  have HL := hide hl
  obtain ⟨hn1, hn2⟩ := hn
  have HO := hide (fun (W : World) => within_yes (n := (n : Int)) (lo := 1) (hi := 5000) (by omega) W)
  have hmx := h.le
  have hmy := h.boundc
  obtain ⟨i0, hi0, hz0, hz1, hz2⟩ := info_parts Try.info35
  obtain ⟨i1_, hi1, hy0, hy1, hy2⟩ := info_parts Try.info40
  clear h hl hF hc
  go_enter Try.func27, Try.ntmps27
  go_wp2_with fail
  with_reducible refine HC.out.mono ?_
  rintro e w1 ⟨rfl, e1⟩
  have E1 := hide e1
  clear e1
  go_wp2_with fail
  with_reducible refine (HO.out _).mono ?_
  rintro e w' ⟨rfl, rfl⟩
  go_wp2_with fail
  go_loopw [7, 8] (fun rv ri wr => ∃ (j p : Nat) (hs : List FrH), ri = .int .i64 (p : Int) ∧ Hid (p = j * n) ∧ Hid (Rw wr w1.heap.size 35 2 eFr (FrOk wr) rv hs (frL n l j) ∧ Ext w1 wr ∧ (j = 0 ∨ (j - 1) * n < m))) (fun _ ri _ => m - (intOf ri).toNat)
  case atStart => exact ⟨0, 0, [], rfl, hide (by simp), hide ⟨⟨Own.nil _ _ _ _ _, rfl, fun _ => False, (fun k h => h.elim), fun i y x hy _ => by simp at hy⟩, Ext.refl _, .inl rfl⟩⟩
  case round =>
    obtain ⟨j, p, hs, rfl, HP, HI⟩ := hrel
    have hjn : j = 0 ∨ (j - 1) * n < m := HI.out.2.2
    have hjm : j ≤ m := by
      rcases hjn with h | h
      · omega
      · have : j - 1 ≤ (j - 1) * n := Nat.le_mul_of_pos_right _ (by omega)
        omega
    have hpm : p ≤ m + n := by
      rcases hjn with h | h
      · rw [HP.out, h]; omega
      · rw [HP.out]
        have : j * n = (j - 1) * n + n ∨ j = 0 := by
          rcases Nat.eq_zero_or_pos j with h0 | h0
          · exact .inr h0
          · left
            rw [show j = (j - 1) + 1 by omega, Nat.add_mul, Nat.one_mul, Nat.add_sub_cancel]
        rcases this with h1 | h1
        · omega
        · rw [h1]; omega
    obtain ⟨vA, vc, hv, _⟩ := HI.out.1.own.at_ len_eFr
    have hhs : hs.length = j := by rw [HI.out.1.len, frL_len]
    rw [hhs] at hv
    subst hv
    have HJN := hide hjn
    have HHS := hide hhs
    clear hjn hhs
    by_cases hlt : p < m
    · obtain ⟨bA, oA, rfl, _⟩ := H.out.addr (by omega)
      obtain ⟨kk, hkk⟩ : ∃ kk : Nat, kk = min n (m - p) := ⟨_, rfl⟩
      obtain ⟨q, hq⟩ : ∃ q : Nat, q = p + kk := ⟨_, rfl⟩
      have hqm : q ≤ m := by omega
      have hpq : p ≤ q := by omega
      have hmin : min (m : Int) ((p : Int) + (n : Int)) = (q : Int) := by omega
      have w2_ : IntKind.i64.wrap ((p : Int) + (n : Int)) = (p : Int) + (n : Int) := by rw [IntKind.wrap_i64]; omega
      have hdv : (p : Int) / (n : Int) = (j : Int) := by
        have h1 : p / n = j := by rw [HP.out]; exact Nat.mul_div_cancel j (by omega)
        rw [← Int.natCast_ediv, h1]
      have hdv2 : (p : Int).tdiv (n : Int) = (j : Int) := by rw [Int.tdiv_eq_ediv_of_nonneg (by omega)]; exact hdv
      have w3_ : IntKind.i64.wrap ((j : Int) + 1) = (j : Int) + 1 := by rw [IntKind.wrap_i64]; omega
      obtain ⟨A3, hr3, ha3⟩ := H.out.range_ Try.underlying30 (fun _ => by kernel_rfl) (k := p) (m := q) hpq hqm (p : Int) (q : Int) rfl rfl
      have hqk : q - p = kk := by omega
      rw [hqk] at hr3 ha3
      have HTK : Hid ((l.drop p).take kk = (l.drop (j * n)).take n) := hide (by
        rw [HP.out]
        rcases Nat.le_total n (m - p) with hc | hc
        · rw [show kk = n by omega]
        · rw [show kk = m - p by omega, HP.out, List.take_of_length_le (by rw [List.length_drop, HL.out]; exact Nat.le_refl _), List.take_of_length_le (by rw [List.length_drop, HL.out]; have := HP.out; omega)])
      have HP2 : Hid (p + n = (j + 1) * n) := hide (by rw [HP.out, Nat.add_mul, Nat.one_mul])
      have HJ2 : Hid (j + 1 = 0 ∨ (j + 1 - 1) * n < m) := hide (.inr (by rw [Nat.add_sub_cancel, ← HP.out]; exact hlt))
      have HA3 := hide (fun (W : World) (hW : Ext w W) => (by have := ha3 W (H.out.ext hW); rwa [HTK.out] at this : At W 5 eSm A3 kk (c - p) ((l.drop (j * n)).take n)))
      have hkl : ((l.drop (j * n)).take n).length = kk := by rw [← HTK.out, List.length_take, List.length_drop, HL.out]; omega
      have HKL := hide hkl
      have hk5 : kk ≤ 5000 := by omega
      have i1 : (p : Int) < (m : Int) := by omega
      have hn0 : ((n : Int) == 0) = false := by rw [beq_eq_false_iff_ne]; omega
      have hn1' : ((n : Int) == -1) = false := by rw [beq_eq_false_iff_ne]; omega
      clear ha3 hkk hq hkl hqk
      go_upto_region 11 with (fail)
      refine gen_wpC fun w4 h4 => ?_
      have X4 : Hid (Blk w4 wr.heap.size 35 #[.int .i64 ((j : Int) + 1), .slice none 0 0]) := hide (by rw [h4]; exact Blk.new _ _ _)
      have E4 : Hid (Ext wr w4) := hide (by rw [h4]; exact Ext.alloc _ _)
      have x1 : w4.cell? ⟨wr.heap.size, 1, none⟩ = some (.slice none 0 0) := X4.out.cell 1
      clear h4 hdv hdv2
      go_still_tail 11, (by kernel_rfl)
      change wpList _ _ _ _ _ w4.drew
      have X5 := hide X4.out.drew
      have E5 := hide (Ext.trans E4.out (Ext.drew w4))
      clear x1 hr3 X4 E4
      generalize w4.drew = w5 at *
      have AT5 := hide (HA3.out w5 (Ext.trans (Ext.trans E1.out HI.out.2.1) E5.out))
      have S1 : Hid (([] : List Smp).length + kk ≤ maxLen) := hide (by simp [maxLen]; omega)
      have S2 : Hid ((([] : List Smp).length + kk) * 40 ≤ 140737488355328) := hide (by simp; omega)
      go_upto_region 12 with ((at_builtin; refine wpList_append_at _ rfl (.tmp 31) (.tmp 40) 30 rfl w5.heap.size 40 i1_ _ 40 Try.underlying30 hi1 hy0 hy1 hy2 rfl (by omega) len_eSm one_eSm (.slice none 0 0) [] rfl (Own.nil _ _ _ _ _) A3 kk (c - p) _ rfl AT5.out S1.out S2.out (Nat.le_refl _) ?_; intro v6 w6 o6 g6 _ _; rw [List.nil_append] at o6; obtain ⟨dA, dc, hv6, q6⟩ := o6.at_ len_eSm; rw [HKL.out] at hv6 q6; subst hv6; have O6 := hide o6; have Q6 := hide q6; have G6 := hide (grown_ext g6); have X6 := hide (X5.out.ext (grown_ext g6)); have n1 := X6.out.cell 1; have z1 := X6.out.frozen 1; clear o6 g6 q6))
      refine gen_wpC fun w7 h7 => ?_
      have X7 : Hid (Blk w7 wr.heap.size 35 #[.int .i64 ((j : Int) + 1), .slice dA kk dc]) := hide (by rw [h7]; exact X6.out.set_ 1 _)
      have V7 : Hid (Tw w6 w7 wr.heap.size none) := hide (by rw [h7]; exact Tw.set_ _ _ _ _ _)
      have hlt6 := O6.out.lt
      have hsz5 := E5.out.size
      have hx5 := X5.out.lt
      have hsz6 := G6.out.size
      have hsz7 := V7.out.size
      clear h7 n1 z1
      have E7 : Hid (Ext wr w7) := hide (by
        have e6 := Ext.trans E5.out G6.out
        exact ⟨V7.out.os.trans e6.os, V7.out.tape.trans e6.tape, V7.out.output.trans e6.output, by have := e6.size; omega, fun b hb => (V7.out.block b (by have := e6.size; omega) (by omega) (by simp)).trans (e6.block b hb)⟩)
      have Q7 : Hid (At w7 5 eSm dA kk dc ((l.drop (j * n)).take n)) := hide (Q6.out.tw V7.out (fun a ha => ⟨by subst ha; have := (hlt6 a.block rfl).1; omega, by simp⟩))
      have R7 := hide (HI.out.1.extF E7.out)
      have HOW := HI.out.1.own.lt
      have hsz1 := HI.out.2.1.size
      have OK7 : Hid (FrOk w7 (fun k => wr.heap.size ≤ k ∧ k < w7.heap.size) ⟨((j : Int) + 1), dA, kk, dc⟩ (((j + 1 : Nat) : Int), (l.drop (j * n)).take n)) := hide ⟨by simp, Q7.out, fun a ha => by subst ha; have := hlt6 a.block rfl; exact ⟨by omega, by omega⟩⟩
      have HGR : Hid (∀ k, (wr.heap.size ≤ k ∧ k < w7.heap.size) → w1.heap.size ≤ k ∧ k < w7.heap.size ∧ (Value.slice vA j vc).ownBlock ≠ some k) := hide (fun k hk => ⟨by omega, hk.2, fun e => by have := (HOW k e).2; omega⟩)
      have AT8 : Hid (At (w7.alloc (.cells #[.int .i64 ((j : Int) + 1), .slice dA kk dc] 35)) 2 eFr (some ⟨w7.heap.size, 0, none⟩) 1 1 [(⟨(j : Int) + 1, dA, kk, dc⟩ : FrH)]) := hide (At.newE (enc := eFr) w7 _ _ _ rfl)
      have M1 : Hid (hs.length + 1 ≤ maxLen) := hide (by rw [HHS.out]; unfold maxLen; omega)
      have M2 : Hid ((hs.length + 1) * 32 ≤ 140737488355328) := hide (by rw [HHS.out]; omega)
      have M3 : Hid (w1.heap.size ≤ (w7.alloc (.cells #[.int .i64 ((j : Int) + 1), .slice dA kk dc] 35)).heap.size) := hide (by rw [World.size_alloc]; omega)
      have f0 : w7.cell? ⟨wr.heap.size, 0, none⟩ = some (.int .i64 ((j : Int) + 1)) := X7.out.cell 0
      have f1 : w7.cell? ⟨wr.heap.size, 1, none⟩ = some (.slice dA kk dc) := X7.out.cell 1
      clear hlt6 HOW
      go_wp2_with (at_builtin; refine wpList_append_at _ rfl (.tmp 43) (.tmp 45) 31 rfl w1.heap.size 35 i0 _ 32 Try.underlying31 hi0 hz0 hz1 hz2 rfl (by omega) len_eFr one_eFr (.slice vA j vc) hs (by rfl) (R7.out.own.ext (Ext.alloc _ _)) (some ⟨w7.heap.size, 0, none⟩) 1 1 [(⟨(j : Int) + 1, dA, kk, dc⟩ : FrH)] (by rfl) AT8.out M1.out M2.out M3.out ?_; intro v9 w9 o9 g9 _ r9; have RW := hide (R7.out.snocF OK7.out HGR.out (Ext.alloc _ _) o9 g9 r9); have E9 : Hid (Ext w1 w9) := hide ((R7.out.own.ext (Ext.alloc _ _)).below (Ext.trans (Ext.trans HI.out.2.1 E7.out) (Ext.alloc _ _)) g9 (Nat.le_refl _)); clear o9 g9 r9)
      refine ⟨⟨j + 1, p + n, hs ++ [⟨(j : Int) + 1, dA, kk, dc⟩], by go_num, HP2, hide ⟨by rw [frL_succ]; exact RW.out, E9.out, HJ2.out⟩⟩, by simp [intOf]; omega⟩
    · have i1 : ¬ (p : Int) < (m : Int) := by omega
      go_wp2_with fail
      have hfin : Hid (FrgGives w n l (.returned (.tuple #[.slice vA j vc, .int .i64 0])) wr) := hide (by
        have hsz := E1.out.size
        refine ⟨Ext.trans E1.out HI.out.2.1, vA, vc, j, rfl, ?_, by rw [← HP.out, HL.out]; omega, by rw [HL.out]; exact HJN.out⟩
        have := HI.out.1.fin
        exact this.good (fun _ _ => rfl) (fun k hk => ⟨by omega, hk.2⟩))
      refine bodyPost_ret (v := .tuple #[.slice vA j vc, .int .i64 0]) (by simp [results, Try.results27, go_sem]) rfl hfin.out
/-- How many fragments there are is told by their samples. -/
theorem frg_many {n m i j : Nat} (hi : m ≤ i * n) (hi2 : i = 0 ∨ (i - 1) * n < m) (hj : m ≤ j * n) (hj2 : j = 0 ∨ (j - 1) * n < m) : i = j := by
  have key : ∀ a b : Nat, m ≤ a * n → (b = 0 ∨ (b - 1) * n < m) → b ≤ a := fun a b ha hb => by
    rcases hb with hb | hb
    · omega
    · apply Classical.byContradiction
      intro hc
      have : a * n ≤ (b - 1) * n := Nat.mul_le_mul_right _ (by omega)
      omega
  have h1 := key i j hi hj2
  have h2 := key j i hj hi2
  omega
end Go.Proofs.Ytgnmnhlhiiehfaa
