/- Several texts in one: Walk: Expand (reference). Conditions as stated; A store into one cell of an element of an own row. Conditions as stated. -/
import Derived.Test.YtlonhkjplijlcaaMrg29
import Derived.Test.YtlonhkjplijlcaaMrg00
namespace Go.Proofs.Ytlonhkjplijlcaa
open Go.RowKit
/-- What Expand gives. -/
def EgGives (w : World) (t : Tab) (e : Ending) (w' : World) : Prop :=
  ∃ A n c B m d, e = .returned (.tuple #[.slice A n c, .slice B m d, .int .i64 (expF t)]) ∧ At w' 5 eSm A n c (if expF t = 0 then exS t else []) ∧ At w' 2 e2 B m d (if expF t = 0 then spS t else []) ∧ Ext w w'
/-- The same, and both lists are the call's own. -/
def EgO (w : World) (t : Tab) (e : Ending) (w' : World) : Prop :=
  ∃ A n c B m d, e = .returned (.tuple #[.slice A n c, .slice B m d, .int .i64 (expF t)]) ∧ Own w' w.heap.size 55 5 eSm (.slice A n c) (if expF t = 0 then exS t else []) ∧ Own w' w.heap.size 78 2 e2 (.slice B m d) (if expF t = 0 then spS t else []) ∧ Ext w w'
theorem EgO.gives {w w' : World} {t : Tab} {e : Ending} (h : EgO w t e w') : EgGives w t e w' := by
  obtain ⟨A, n, c, B, m, d, rfl, h1, h2, h3⟩ := h
  exact ⟨A, n, c, B, m, d, rfl, h1.atS len_eSm, h2.atS len_e2, h3⟩
theorem ego_bad {w w' : World} {t : Tab} {f : Int} (h : expF t = f) (hf : f ≠ 0) (he : Ext w w') : EgO w t (.returned (.tuple #[.slice none 0 0, .slice none 0 0, .int .i64 f])) w' :=
  ⟨none, 0, 0, none, 0, 0, by rw [h], by rw [if_neg (by omega)]; exact Own.nil _ _ _ _ _, by rw [if_neg (by omega)]; exact Own.nil _ _ _ _ _, he⟩
theorem ego_good {w w' : World} {t : Tab} {A : Option Addr} {n c : Nat} {B : Option Addr} {m d b1 b2 : Nat} (h : expF t = 0) (h1 : Own w' b1 55 5 eSm (.slice A n c) (exS t)) (h2 : Own w' b2 78 2 e2 (.slice B m d) (spS t)) (he : Ext w w') (hb1 : w.heap.size ≤ b1) (hb2 : w.heap.size ≤ b2) : EgO w t (.returned (.tuple #[.slice A n c, .slice B m d, .int .i64 0])) w' :=
  ⟨A, n, c, B, m, d, by rw [h], by rw [if_pos h]; exact h1.more hb1, by rw [if_pos h]; exact h2.more hb2, he⟩
theorem expF_tab {t : Tab} (h : tabF t ≠ 0) : expF t = tabF t := by unfold expF; rw [if_pos h]
theorem expF_big {t : Tab} (h : tabF t = 0) (h1 : (spS t).any bigS = true) : expF t = 1 := by unfold expF; rw [if_neg (by omega), if_pos h1]
theorem expF_ok {t : Tab} (h : tabF t = 0) (h1 : (spS t).any bigS = false) : expF t = 0 := by unfold expF; rw [if_neg (by omega), if_neg (by rw [h1]; simp)]
set_option linter.unusedVariables false in
set_option linter.unusedSimpArgs false in
set_option maxRecDepth 100000 in
set_option maxHeartbeats 8000000 in
theorem refExpand_own {sA : Option Addr} {sn sc : Nat} {hA : Option Addr} {hn hc : Nat} {zA : Option Addr} {zn zc : Nat} {kA : Option Addr} {kn kc : Nat} {cA : Option Addr} {cn cc : Nat} {pA : Option Addr} {pn pc : Nat} {t : Tab} {w : World}
    (h : TabAt w sA sn sc hA hn hc zA zn zc kA kn kc cA cn cc pA pn pc t) (hz : TabSz sn hn zn kn cn pn) :
    Calls Try.prog 35 #[.agg #[.int .i64 t.start, .slice sA sn sc, .slice hA hn hc, .slice zA zn zc, .slice kA kn kc, .slice cA cn cc, .slice pA pn pc]] w (EgO w t) := by
  have E0 := hide (Ext.alloc w (.cells #[.int .i64 t.start, .slice sA sn sc, .slice hA hn hc, .slice zA zn zc, .slice kA kn kc, .slice cA cn cc, .slice pA pn pc] 73))
  have X0 := hide (Blk.new w 73 #[.int .i64 t.start, .slice sA sn sc, .slice hA hn hc, .slice zA zn zc, .slice kA kn kc, .slice cA cn cc, .slice pA pn pc])
  have HC := hide (refCheckTable_any (h.ext E0.out) rfl hz)
  by_cases hf : tabF t = 0
  case neg =>
    have HV := hide (expF_tab hf)
    have HNZ := hide hf
    have d0 : (tabF t != 0) = true := by simp [hf]
    clear h hf
    generalize tabF t = tf at *
    go_enter Try.func35, Try.ntmps35
    go_wp2_with fail
    with_reducible refine HC.out.mono ?_
    rintro e w1 ⟨rfl, e1⟩
    have E1 := hide (Ext.trans E0.out e1)
    clear e1
    go_wp2_with fail
    go_ret3
    exact ego_bad HV.out HNZ.out E1.out
  case pos =>
  have hR := tab_right hf
  have HXP := hide (fun (W : World) (hW : Ext w W) => refExpanded_any (h.ext hW) hR)
  have hfw := tab_few hR
  have hex := exN_eq hR
  have hfew := hR.few
  have hpl := h.places.len
  have hcl := h.chunks.len
  have HCH := hide h.chunks
  have HPP := hide h.places
  have HLT := hide (fun (k j : Nat) (h1 : k < pn) (h2 : (j : Int) < smO t.chunks ((k : Int) + 1)) => (sp_lt hR (c := k) (j := j) (by omega) h2 : (spC t k).length + j < exN t))
  have HSZ := hide (fun (i : Nat) (hi : i < exN t) => (by rw [exS_at hi] : ((exS t).getD i dS).size = exSz t i))
  have HZB := hide (szP_bd hR.sizes)
  have HEB := hide (exSz_bd hR.sizes)
  have HPB := hide (fun (k : Nat) (hk : k < pn) => plEl_bd hR.places (i := k) (by omega))
  have HMB := hide (fun (k : Nat) => smO_bd hR.chunks ((k : Int) + 1))
  have HBG := hide (expF_big hf)
  have HOK := hide (expF_ok hf)
  have HMET := hide (fun (k j : Nat) (h1 : k < pn) (h2 : (j : Int) < smO t.chunks ((k : Int) + 1)) h3 => (sp_met (t := t) (c := k) (j := j) (by omega) h2 h3))
  have HEL : Hid ((exS t).length = exN t) := hide (mapR_len _ _)
  have HSS : Hid (spS t = spC t pn) := hide (by unfold spS; rw [hpl])
  have hpn : pn ≤ 5000 := by omega
  have HN : Hid (exN t ≤ 5000) := hide (by omega)
  obtain ⟨i0_, hi0, hz0, hz1, hz2⟩ := info_parts Try.info78
  rw [hf] at HC
  clear h hR hfw hex hfew hpl hcl hf
  go_enter Try.func35, Try.ntmps35
  go_wp2_with fail
  with_reducible refine HC.out.mono ?_
  rintro e w1 ⟨rfl, e1⟩
  have E1 := hide (Ext.trans E0.out e1)
  have X1 := hide (X0.out.ext e1)
  clear e1 HC E0 X0
  have x0 : w1.cell? ⟨w.heap.size, 0, none⟩ = some (.int .i64 t.start) := X1.out.cell 0
  have x1 : w1.cell? ⟨w.heap.size, 1, none⟩ = some (.slice sA sn sc) := X1.out.cell 1
  have x2 : w1.cell? ⟨w.heap.size, 2, none⟩ = some (.slice hA hn hc) := X1.out.cell 2
  have x3 : w1.cell? ⟨w.heap.size, 3, none⟩ = some (.slice zA zn zc) := X1.out.cell 3
  have x4 : w1.cell? ⟨w.heap.size, 4, none⟩ = some (.slice kA kn kc) := X1.out.cell 4
  have x5 : w1.cell? ⟨w.heap.size, 5, none⟩ = some (.slice cA cn cc) := X1.out.cell 5
  have x6 : w1.cell? ⟨w.heap.size, 6, none⟩ = some (.slice pA pn pc) := X1.out.cell 6
  go_wp2_with fail
  with_reducible refine (HXP.out _ E1.out).mono ?_
  rintro e w2 ⟨v, rfl, o2, e2⟩
  obtain ⟨lA, lc, hv, _⟩ := o2.at_ len_eSm
  rw [HEL.out] at hv
  subst hv
  have AL := hide (o2.atS len_eSm)
  have AO := hide o2
  have AS1 := hide E1.out.size
  have AS2 := hide (Ext.trans E1.out e2).size
  have E2 := hide (Ext.trans E1.out e2)
  have X2 := hide (X1.out.ext e2)
  clear o2 e2 E1 X1 x0 x1 x2 x3 x4 x5 x6 HXP HEL
  obtain ⟨N, hN⟩ : ∃ N, exN t = N := ⟨_, rfl⟩
  rw [hN] at AL AO HLT HSZ HN ⊢
  clear hN
  have g5 : w2.cell? ⟨w.heap.size, 5, none⟩ = some (.slice cA cn cc) := X2.out.cell 5
  have g6 : w2.cell? ⟨w.heap.size, 6, none⟩ = some (.slice pA pn pc) := X2.out.cell 6
  go_wp2_with fail
  go_loopw [7, 8] (fun r7 rk wr => ∃ k : Nat, k ≤ pn ∧ rk = .int .i64 k ∧ Hid (Own wr w2.heap.size 78 2 e2 r7 (spC t k)) ∧ Hid ((spC t k).any bigS = false) ∧ Hid (Ext w2 wr)) (fun _ rk _ => pn - (intOf rk).toNat)
  case atStart => exact ⟨0, by omega, rfl, hide (Own.nil _ _ _ _ _), hide rfl, hide (Ext.refl _)⟩
  case round =>
    obtain ⟨k, hk, rfl, HO, HNB, HX⟩ := hrel
    obtain ⟨wo, hwo⟩ : ∃ wo, wo = wr := ⟨_, rfl⟩
    subst hwo
    by_cases hlt : k < pn
    · obtain ⟨b, off, rfl, _⟩ := HPP.out.addr (by omega)
      have a0 := ((HPP.out.ext E2.out).ext HX.out).num hlt
      have u5 := HX.out.cell g5
      have u6 := HX.out.cell g6
      have hpb := HPB.out k hlt
      have HLTk := hide (fun j => HLT.out k j hlt)
      have HMETk := hide (fun j => HMET.out k j hlt)
      have HSU : Hid (spC t (k + 1) = spC t k ++ spI t (t.places.getD k 0) (spC t k).length (smO t.chunks ((k : Int) + 1)).toNat) := hide rfl
      obtain ⟨m, hm⟩ : ∃ m : Nat, smO t.chunks ((k : Int) + 1) = (m : Int) := ⟨(smO t.chunks ((k : Int) + 1)).toNat, by have := HMB.out k; omega⟩
      have hmm := HMB.out k
      have HSM := hide (fun (W : World) (hW : Ext w2 W) => samplesOf_any (ch := (k : Int) + 1) ((HCH.out.ext E2.out).ext hW))
      rw [hm] at hmm HLTk HMETk HSU HSM
      rw [Int.toNat_natCast] at HSU
      generalize t.places.getD k 0 = p at *
      obtain ⟨s, hs⟩ : ∃ s, s = (spC t k).length := ⟨_, rfl⟩
      have HSL := hide hs
      rw [← hs] at HSU HLTk HMETk
      generalize spC t k = L0 at *
      have i1 : (k : Int) < (pn : Int) := by omega
      have i0 : (0 : Int) ≤ (k : Int) := by omega
      have i8 : IntKind.i64.wrap ((k : Int) + 1) = (k : Int) + 1 := by rw [IntKind.wrap_i64]; omega
      clear hs HLT HMET hm
      go_wp2_with fail
      go_loopw [7, 9, 10] (fun r7 r9 rj wi => ∃ j : Nat, j ≤ m ∧ rj = .int .i64 j ∧ r9 = .int .i64 (p + (szP t (s + j) - szP t s)) ∧ Hid (Own wi w2.heap.size 78 2 e2 r7 (L0 ++ spI t p s j)) ∧ Hid ((L0 ++ spI t p s j).any bigS = false) ∧ Hid (Ext w2 wi)) (fun _ _ rj _ => m - (intOf rj).toNat)
      case atStart => exact ⟨0, by omega, rfl, by simp, hide (by simpa [spI] using HO.out), hide (by simpa [spI] using HNB.out), HX⟩
      case round =>
        clear HO HNB a0 u5 u6
        obtain ⟨j, hj, rfl, rfl, HO, HNB, HY⟩ := hrel
        have v5 := HY.out.cell g5
        have v6 := HY.out.cell g6
        by_cases hjm : j < m
        · have hsn := HLTk.out j (by omega)
          obtain ⟨lb, lo, rfl, _⟩ := AL.out.addr (by omega)
          have c3 := (AL.out.ext HY.out).cellK hsn dS 3 _ rfl
          rw [HSZ.out _ hsn] at c3
          have hll : (L0 ++ spI t p s j).length = s + j := by rw [List.length_append, spI_len, ← HSL.out]
          obtain ⟨A5, c5, hv5, _⟩ := HO.out.at_ len_e2
          rw [hll] at hv5
          subst hv5
          have hzb := HZB.out s j
          have heb := HEB.out (s + j)
          have HPJ : Hid (spI t p s (j + 1) = spI t p s j ++ [(p + (szP t (s + j) - szP t s), exSz t (s + j))]) := hide rfl
          have HPZ : Hid (szP t (s + (j + 1)) = szP t (s + j) + exSz t (s + j)) := hide rfl
          have S1 : Hid ((L0 ++ spI t p s j).length + 1 ≤ maxLen) := hide (by rw [hll]; have := HN.out; unfold maxLen; omega)
          have S2 : Hid (((L0 ++ spI t p s j).length + 1) * 16 ≤ 140737488355328) := hide (by rw [hll]; have := HN.out; omega)
          have HMJ := hide (HMETk.out j (by omega))
          generalize spI t p s j = L1 at *
          generalize exSz t (s + j) = y at *
          obtain ⟨x, hx⟩ : ∃ x, x = p + (szP t (s + j) - szP t s) := ⟨_, rfl⟩
          rw [← hx] at HPJ ⊢
          have HXE := hide hx
          have hxb : 0 ≤ x ∧ x ≤ 1000000 + 100000 * 1000 := by omega
          clear hx hzb
          obtain ⟨qq, hq⟩ : ∃ qq, qq = s + j := ⟨_, rfl⟩
          rw [← hq] at hll HPZ hsn c3 HO ⊢
          have hq2 := HN.out
          have S3 : Hid (w2.heap.size ≤ ((wr.alloc (.cells #[.int .i64 x, .int .i64 y] 78)).alloc (.cells #[.int .i64 x, .int .i64 y] 78)).heap.size) := hide (by have h2 := HY.out.size; rw [World.size_alloc, World.size_alloc]; omega)
          have j1 : (j : Int) < (m : Int) := by omega
          have j0 : (0 : Int) ≤ (j : Int) := by omega
          have j8 : IntKind.i64.wrap ((j : Int) + 1) = (j : Int) + 1 := by rw [IntKind.wrap_i64]; omega
          have j9 : IntKind.i64.wrap (x + y) = x + y := by rw [IntKind.wrap_i64]; omega
          have q1 : (qq : Int) < (N : Int) := by omega
          have q0 : (0 : Int) ≤ (qq : Int) := by omega
          have HQ := hide hq
          have HSW := hide (HSM.out _ HY.out)
          clear hq hll
          by_cases hbig : 1000000 < x + y
          · have HE : Hid (expF t = 1) := hide (HBG.out (HMJ.out (by rw [HPJ.out, ← List.append_assoc, List.any_append]; simp [bigS, hbig])))
            go_wp2_with fail
            with_reducible refine HSW.out.mono ?_
            rintro e w' ⟨rfl, rfl⟩
            go_wp2_with fail
            go_ret3
            exact ego_bad HE.out (by omega) (Ext.trans E2.out (Ext.trans HY.out (Ext.alloc _ _)))
          · have HNX : Hid (((L0 ++ L1) ++ [(x, y)]).any bigS = false) := hide (by rw [List.any_append, HNB.out]; simp [bigS, hbig])
            clear HMJ
            go_wp2_with fail
            with_reducible refine HSW.out.mono ?_
            rintro e w' ⟨rfl, rfl⟩
            go_wp2_with (at_builtin; go_must (refine wpList_append_at _ rfl (.tmp 54) (.tmp 56) 74 rfl w2.heap.size 78 i0_ _ 16 Try.underlying74 hi0 hz0 hz1 hz2 rfl (by omega) len_e2 one_e2 _ _ (by rfl) ((HO.out.ext (Ext.alloc _ _)).ext (Ext.alloc _ _)) (some ⟨wr.heap.size + 1, 0, none⟩) 1 1 [(x, y)] (by rfl) (by have q9 := At.pair1 (wr.alloc (.cells #[.int .i64 x, .int .i64 y] 78)) x y 78; rw [World.size_alloc] at q9; exact q9) S1.out S2.out S3.out ?_); intro v7 w7 o7 g7 _ _; have O7 := hide o7; have G7 := hide g7; clear o7 g7)
            have E7 := hide (Own.below ((HO.out.ext (Ext.alloc _ _)).ext (Ext.alloc _ _)) (Ext.trans (Ext.trans HY.out (Ext.alloc _ _)) (Ext.alloc _ _)) G7.out (Nat.le_refl _))
            exact ⟨⟨j + 1, by omega, by go_num, int_val (by rw [HPZ.out]; have h9 := HXE.out; rw [← HQ.out] at h9; omega), hide (by rw [HPJ.out, ← List.append_assoc]; exact O7.out), hide (by rw [HPJ.out, ← List.append_assoc]; exact HNX.out), hide E7⟩, by simp [intOf]; omega⟩
        · obtain rfl : j = m := by omega
          have HSW := hide (HSM.out _ HY.out)
          clear hjm hj
          go_wp2_with fail
          with_reducible refine HSW.out.mono ?_
          rintro e w' ⟨rfl, rfl⟩
          go_wp2_with fail
          exact ⟨⟨k + 1, by omega, by go_num, hide (by rw [HSU.out]; exact HO.out), hide (by rw [HSU.out]; exact HNB.out), HY⟩, by simp [intOf]; omega⟩
    · obtain rfl : k = pn := by omega
      have HE : Hid (expF t = 0) := hide (HOK.out (by rw [HSS.out]; exact HNB.out))
      have u6 := HX.out.cell g6
      obtain ⟨A5, c5, rfl, hat⟩ := HO.out.at_ len_e2
      have HAT := hide HO.out
      clear hlt hat
      go_wp2_with fail
      go_ret3
      exact ego_good HE.out (AO.out.ext HX.out) (by rw [HSS.out]; exact HAT.out) (Ext.trans E2.out HX.out) AS1.out AS2.out
end Go.Proofs.Ytlonhkjplijlcaa
namespace Go.Proofs.Ytlonhkjplijlcaa
open Go.RowKit
theorem flat_setF {α : Type} {enc : α → List Value} {sz : Nat} (hsz : ∀ x, (enc x).length = sz) (d : α) : ∀ (xs : List α) (k j : Nat) (x : α) (u : Value), k < xs.length → j < sz → enc x = (enc (xs.getD k d)).set j u → (xs.flatMap enc).set (k * sz + j) u = (xs.set k x).flatMap enc
  | [], k, _, _, _, hk, _, _ => absurd hk (Nat.not_lt_zero _)
  | y :: ys, 0, j, x, u, _, hj, hx => by
    have hy := hsz y
    rw [List.set_cons_zero, List.flatMap_cons, List.flatMap_cons, Nat.zero_mul, Nat.zero_add, List.set_append_left _ _ (by omega), hx]
    rfl
  | y :: ys, k + 1, j, x, u, hk, hj, hx => by
    have hy := hsz y
    rw [List.set_cons_succ, List.flatMap_cons, List.flatMap_cons, ← flat_setF hsz d ys k j x u (by simpa using hk) hj (by simpa using hx)]
    rw [List.set_append_right _ _ (by rw [hy, Nat.add_mul]; omega), hy]
    congr 2
    rw [Nat.add_mul]; omega
theorem Own.rowF {α : Type} {w : World} {base : Nat} {t : TypeId} {sz : Nat} {enc : α → List Value} {g n c : Nat} {xs : List α} (h : Own w base t sz enc (.slice (some ⟨g, 0, none⟩) n c) xs) :
    ∃ cur, Blk w g t cur ∧ n ≤ c ∧ c ≤ maxLen ∧ cur.size = c * sz ∧ xs.length = n ∧ cur.toList.take (n * sz) = xs.flatMap enc ∧ base ≤ g := by
  obtain ⟨h0, h⟩ := h
  rcases h with ⟨hv, _⟩ | ⟨g', cap, cur, hv, hb, hg, hnc, hcm, hcs, ht⟩
  · cases hv
  · injection hv with h1 h2 h3
    injection h1 with h1
    injection h1 with h1
    subst h1 h3
    exact ⟨cur, hg, by omega, hcm, hcs, h2.symm, by rw [h2]; rw [← ht], hb⟩
theorem Own.frozenF {α : Type} {w : World} {base : Nat} {t : TypeId} {sz : Nat} {enc : α → List Value} {g n c : Nat} {xs : List α} (h : Own w base t sz enc (.slice (some ⟨g, 0, none⟩) n c) xs) (i : Nat) : w.frozen? ⟨g, i, none⟩ = false := by
  obtain ⟨cur, hg, _⟩ := h.rowF
  exact hg.frozen i
theorem Own.setF {α : Type} {w : World} {base : Nat} {t : TypeId} {sz : Nat} {enc : α → List Value} {g n c : Nat} {xs : List α} (hsz : ∀ x, (enc x).length = sz) (h : Own w base t sz enc (.slice (some ⟨g, 0, none⟩) n c) xs) (d : α) (k j : Nat) (hk : k < n) (hj : j < sz) (x : α) (u : Value) (hx : enc x = (enc (xs.getD k d)).set j u) :
    Own (w.setCell ⟨g, k * sz + j, none⟩ u) base t sz enc (.slice (some ⟨g, 0, none⟩) n c) (xs.set k x) := by
  obtain ⟨cur, hg, hnc, hcm, hcs, hl, ht, hb⟩ := h.rowF
  refine ⟨by rw [flat_len hsz], .inr ⟨g, c, _, by rw [List.length_set, hl], hb, hg.set_ (k * sz + j) u, by rw [List.length_set, hl]; exact hnc, hcm, by simp [hcs], ?_⟩⟩
  rw [List.length_set, hl, Array.toList_setIfInBounds, List.take_set, ht]
  exact flat_setF hsz d xs k j x u (by omega) hj hx
end Go.Proofs.Ytlonhkjplijlcaa
