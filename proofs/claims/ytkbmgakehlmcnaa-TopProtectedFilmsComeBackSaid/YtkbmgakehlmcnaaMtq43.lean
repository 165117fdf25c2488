/- Several texts in one: Walk: placed (program). Conditions as stated; Walk: Expand (reference). Conditions as stated; A store into one cell of an element of an own row. Conditions as stated. -/
import Derived.Test.YtkbmgakehlmcnaaMtq26
import Derived.Test.YtkbmgakehlmcnaaMtq33
import Derived.Test.YtkbmgakehlmcnaaMtq42
import Derived.Test.YtkbmgakehlmcnaaMtq00
namespace Go.Proofs.Ytkbmgakehlmcnaa
open Go.RowKit
theorem Try.info87 : (Try.prog.info? 87).map (fun i => (i.zero, i.size, i.bytes)) = some (some (.agg #[.int .i64 0, .int .i64 0]), 2, 16) := by kernel_rfl
theorem plEl_bd {l : List Int} (h : firstF (plEl l) l.length = 0) {i : Nat} (hi : i < l.length) : 0 ≤ l.getD i 0 ∧ l.getD i 0 ≤ 1000000 := by
  have := firstF_all h i hi
  unfold plEl at this
  by_cases h1 : l.getD i 0 < 0 ∨ 1000000 < l.getD i 0
  · rw [if_pos h1] at this; omega
  · omega
set_option linter.unusedVariables false in
set_option linter.unusedSimpArgs false in
set_option maxRecDepth 100000 in
set_option maxHeartbeats 8000000 in
theorem keyPlaced_any {sA : Option Addr} {sn sc : Nat} {hA : Option Addr} {hn hc : Nat} {zA : Option Addr} {zn zc : Nat} {kA : Option Addr} {kn kc : Nat} {cA : Option Addr} {cn cc : Nat} {pA : Option Addr} {pn pc : Nat} {t : Tab} {A : Option Addr} {n c : Nat} {w : World}
    (h : TabAt w sA sn sc hA hn hc zA zn zc kA kn kc cA cn cc pA pn pc t) (hl : At w 5 eSm A n c (exS t)) (hR : TabR1 t) :
    Calls Try.prog 58 #[.agg #[.int .i64 t.start, .slice sA sn sc, .slice hA hn hc, .slice zA zn zc, .slice kA kn kc, .slice cA cn cc, .slice pA pn pc], .slice A n c] w fun e w' => ∃ v, e = .returned v ∧ Own w' w.heap.size 87 2 e2 v (spS t) ∧ Ext w w' := by
  have hf := tab_few hR
  have hnn : n = exN t := by rw [← hl.len]; unfold exS; exact mapR_len _ _
  have hex := exN_eq hR
  have hfew := hR.few
  have HN : Hid (n ≤ 5000) := hide (by omega)
  have HL := hide hl
  have HC := hide h.chunks
  have HP := hide h.places
  have hcl := h.chunks.len
  have hpl := h.places.len
  have HCC : Hid (0 < pn → 0 < cn ∧ (t.chunks.getD 0 (0, 0)).1 = 1) := hide (fun h0 => by
    have h1 : 0 < t.chunks.length := Nat.pos_of_ne_zero fun hc => hR.form (.inl ⟨by omega, hc⟩)
    exact ⟨by omega, (ch_ok hR.chunks 0 h1).2.1 rfl⟩)
  have HAT := hide (fun (k run : Nat) (h1 : run < cn) (h2 : (t.chunks.getD run (0, 0)).1 ≤ (k : Int) + 1) (h3 : run + 1 < cn → (k : Int) + 1 < (t.chunks.getD (run + 1) (0, 0)).1) => (smO_at hR.chunks (k := run) (by omega) h2 (fun h4 => h3 (by omega)) : smO t.chunks ((k : Int) + 1) = (t.chunks.getD run (0, 0)).2))
  have HLT := hide (fun (k j : Nat) (h1 : k < pn) (h2 : (j : Int) < smO t.chunks ((k : Int) + 1)) => (by have := sp_lt hR (c := k) (j := j) (by omega) h2; omega : (spC t k).length + j < n))
  have HSZ := hide (fun (i : Nat) (hi : i < n) => (by rw [exS_at (by omega)] : ((exS t).getD i dS).size = exSz t i))
  have HZB := hide (szP_bd hR.sizes)
  have HEB := hide (exSz_bd hR.sizes)
  have HPB := hide (fun (k : Nat) (hk : k < pn) => plEl_bd hR.places (i := k) (by omega))
  have HMB := hide (fun (k : Nat) => smO_bd hR.chunks ((k : Int) + 1))
  have HCB := hide (fun (k : Nat) (hk : k < cn) => (ch_ok hR.chunks k (by omega)).1)
  have hpn : pn ≤ 5000 := by omega
  have hcn : cn ≤ 5000 := by omega
  have E0 := hide (Ext.alloc w (.cells #[.int .i64 t.start, .slice sA sn sc, .slice hA hn hc, .slice zA zn zc, .slice kA kn kc, .slice cA cn cc, .slice pA pn pc] 82))
  have X0 := hide (Blk.new w 82 #[.int .i64 t.start, .slice sA sn sc, .slice hA hn hc, .slice zA zn zc, .slice kA kn kc, .slice cA cn cc, .slice pA pn pc])
  obtain ⟨i0_, hi0, hz0, hz1, hz2⟩ := info_parts Try.info87
  have HPL := hide hpl
  clear h hl hR hf hex hfew hcl hpl hnn
  go_enter Try.func58, Try.ntmps58
  go_upto_region 1 with (fail)
  refine gen_wpC fun w0 h0 => ?_
  have F0 : Hid (Ext w w0) := hide (by rw [h0]; exact E0.out)
  have Y0 := hide (show Blk w0 w.heap.size 82 #[.int .i64 t.start, .slice sA sn sc, .slice hA hn hc, .slice zA zn zc, .slice kA kn kc, .slice cA cn cc, .slice pA pn pc] from by rw [h0]; exact X0.out)
  clear h0 E0 X0
  have y5 : w0.cell? ⟨w.heap.size, 5, none⟩ = some (.slice cA cn cc) := Y0.out.cell 5
  have y6 : w0.cell? ⟨w.heap.size, 6, none⟩ = some (.slice pA pn pc) := Y0.out.cell 6
  go_wp2_with fail
  go_loopw [5, 6, 13] (fun r5 r6 rk wr => ∃ (k run : Nat), k ≤ pn ∧ rk = .int .i64 k ∧ r6 = .int .i64 run ∧ Hid (0 < pn → run < cn ∧ (t.chunks.getD run (0, 0)).1 ≤ (k : Int) + 1) ∧ Hid (Own wr w0.heap.size 87 2 e2 r5 (spC t k)) ∧ Hid (Ext w0 wr)) (fun _ _ rk _ => pn - (intOf rk).toNat)
  case atStart => exact ⟨0, 0, by omega, rfl, rfl, hide (fun h1 => ⟨(HCC.out h1).1, by rw [(HCC.out h1).2]; omega⟩), hide (Own.nil _ _ _ _ _), hide (Ext.refl _)⟩
  case round =>
    obtain ⟨k, run0, hk, rfl, rfl, HI, HO, HX⟩ := hrel
    by_cases hlt : k < pn
    · obtain ⟨b, off, rfl, _⟩ := HP.out.addr (by omega)
      have a0 := ((HP.out.ext F0.out).ext HX.out).num hlt
      obtain ⟨cb, co, rfl, _⟩ := HC.out.addr (by have := (HCC.out (by omega)).1; omega)
      have u5 := HX.out.cell y5
      have hI0 := HI.out (by omega)
      have hpb := HPB.out k hlt
      have HLTk := hide (fun j => HLT.out k j hlt)
      have HSU : Hid (spC t (k + 1) = spC t k ++ spI t (t.places.getD k 0) (spC t k).length (smO t.chunks ((k : Int) + 1)).toNat) := hide rfl
      generalize t.places.getD k 0 = p at *
      obtain ⟨s, hs⟩ : ∃ s, s = (spC t k).length := ⟨_, rfl⟩
      have HSL := hide hs
      rw [← hs] at HSU HLTk
      generalize spC t k = L0 at *
      have i1 : (k : Int) < (pn : Int) := by omega
      have i0 : (0 : Int) ≤ (k : Int) := by omega
      have i8 : IntKind.i64.wrap ((k : Int) + 1) = (k : Int) + 1 := by rw [IntKind.wrap_i64]; omega
      have HX1 := HX
      have HO1 := HO
      clear hs HI HO HX HLT
      obtain ⟨wo, hwo⟩ : ∃ wo, wo = wr := ⟨_, rfl⟩
      subst hwo
      go_wp2_with fail
      go_loopw [6] (fun r6 wi => ∃ run : Nat, r6 = .int .i64 run ∧ Hid (run < cn ∧ (t.chunks.getD run (0, 0)).1 ≤ (k : Int) + 1) ∧ Hid (Ext wo wi)) (fun r6 _ => cn - (intOf r6).toNat)
      case atStart => exact ⟨run0, rfl, hide hI0, hide (Ext.refl _)⟩
      case round =>
        obtain ⟨run, rfl, HI, HX⟩ := hrel
        have hrc := HI.out.1
        have HAX := hide (HAT.out k run hrc HI.out.2)
        have hex1 := Ext.trans HX1.out HX.out
        have hat := (HC.out.ext F0.out).ext hex1
        have v5 := hex1.cell y5
        have j8 : IntKind.i64.wrap ((run : Int) + 1) = (run : Int) + 1 := by rw [IntKind.wrap_i64]; omega
        have j0 : (0 : Int) ≤ (run : Int) := by omega
        have hcb := HCB.out
        have HCR : Hid (run + 1 < cn → ∃ z : Int, (t.chunks.getD (run + 1) (0, 0)).1 = z ∧ wr.cell? ⟨cb, co + (run + 1) * 2, none⟩ = some (.int .i64 z)) := hide (fun h1 => ⟨_, rfl, (hat.pair h1).1⟩)
        have HMM := hide (HMB.out k)
        have u1 : wr.cell? ⟨cb, co + run * 2 + 1, none⟩ = some (.int .i64 (t.chunks.getD run (0, 0)).2) := (hat.pair hrc).2
        have HEX1 := hide hex1
        have HRC := hide hrc
        clear hat hex1 hcb
        go_upto_region 6 with (fail)
        go_cut [35] (fun s wx => ∃ go : Bool, s = .bool go ∧ Hid (go = decide (run + 1 < cn ∧ (t.chunks.getD (run + 1) (0, 0)).1 ≤ (k : Int) + 1)) ∧ wr = wx)
        case first =>
          by_cases h1 : run + 1 < cn
          · obtain ⟨z, hz, c0⟩ := HCR.out h1
            have j1 : (run : Int) + 1 < (cn : Int) := by omega
            have j2 : ((run : Int) + 1).toNat = run + 1 := by omega
            have j3 : (0 : Int) ≤ (run : Int) + 1 := by omega
            by_cases h2 : z ≤ (k : Int) + 1
            · have GG : Hid (true = decide (run + 1 < cn ∧ (t.chunks.getD (run + 1) (0, 0)).1 ≤ (k : Int) + 1)) := hide (by rw [hz]; simp [h1, h2])
              clear hz
              go_wp2_with fail
              go_meet
              exact ⟨_, rfl, GG, rfl⟩
            · have GG : Hid (false = decide (run + 1 < cn ∧ (t.chunks.getD (run + 1) (0, 0)).1 ≤ (k : Int) + 1)) := hide (by rw [hz]; simp [h2])
              clear hz
              go_wp2_with fail
              go_meet
              exact ⟨_, rfl, GG, rfl⟩
          · have j1 : ¬ (run : Int) + 1 < (cn : Int) := by omega
            have GG : Hid (false = decide (run + 1 < cn ∧ (t.chunks.getD (run + 1) (0, 0)).1 ≤ (k : Int) + 1)) := hide (by simp [h1])
            go_wp2_with fail
            go_meet
            exact ⟨_, rfl, GG, rfl⟩
        case rest =>
        obtain ⟨go, rfl, HGO, rfl⟩ := hcut
        cases go with
        | true =>
          have h1 := of_decide_eq_true HGO.out.symm
          have HI2 := hide h1
          have hm1 : cn - (run + 1) < cn - run := by omega
          clear h1 HAX HCR
          go_wp2_with fail
          exact ⟨⟨run + 1, by go_num, HI2, HX⟩, by simp [intOf]; omega⟩
        | false =>
          have h1 := of_decide_eq_false HGO.out.symm
          have HSM := hide (HAX.out (fun h2 => by
            by_cases h3 : (t.chunks.getD (run + 1) (0, 0)).1 ≤ (k : Int) + 1
            · exact absurd ⟨h2, h3⟩ h1
            · omega))
          have HRI : Hid (run < cn ∧ (t.chunks.getD run (0, 0)).1 ≤ (k : Int) + 1 + 1) := hide ⟨HI.out.1, by have := HI.out.2; omega⟩
          rw [← HSM.out] at u1
          obtain ⟨m, hm⟩ : ∃ m : Nat, smO t.chunks ((k : Int) + 1) = (m : Int) := ⟨(smO t.chunks ((k : Int) + 1)).toNat, by have := HMM.out; omega⟩
          have hmm := HMM.out
          rw [hm] at u1 hmm HLTk HSU
          rw [Int.toNat_natCast] at HSU
          have HOX := hide (HO1.out.ext HX.out)
          have hk5 : (k : Int) ≤ 5000 := by omega
          clear h1 HAX HCR HGO HI HO1 HSM HMM hm
          obtain ⟨w2, hw2⟩ : ∃ w2, w2 = wr := ⟨_, rfl⟩
          subst hw2
          go_wp2_with fail
          go_loopw [5, 8, 44] (fun r5 r8 rj wi => ∃ j : Nat, j ≤ m ∧ rj = .int .i64 j ∧ r8 = .int .i64 (p + (szP t (s + j) - szP t s)) ∧ Hid (Own wi w0.heap.size 87 2 e2 r5 (L0 ++ spI t p s j)) ∧ Hid (Ext w0 wi)) (fun _ _ rj _ => m - (intOf rj).toNat)
          case atStart => exact ⟨0, by omega, rfl, by simp, hide (by simpa [spI] using HOX.out), HEX1⟩
          case round =>
            obtain ⟨j, hj, rfl, rfl, HO, HY⟩ := hrel
            by_cases hjm : j < m
            · have hsn := HLTk.out j (by omega)
              obtain ⟨lb, lo, rfl, _⟩ := HL.out.addr (by omega)
              have c3 := ((HL.out.ext F0.out).ext HY.out).cellK hsn dS 3 _ rfl
              rw [HSZ.out _ hsn] at c3
              have hll : (L0 ++ spI t p s j).length = s + j := by rw [List.length_append, spI_len, ← HSL.out]
              obtain ⟨A5, c5, hv5, _⟩ := HO.out.at_ len_e2
              rw [hll] at hv5
              subst hv5
              have hzb := HZB.out s j
              have heb := HEB.out (s + j)
              have HPJ : Hid (spI t p s (j + 1) = spI t p s j ++ [(p + (szP t (s + j) - szP t s), exSz t (s + j))]) := hide rfl
              have HPZ : Hid (szP t (s + (j + 1)) = szP t (s + j) + exSz t (s + j)) := hide rfl
              have S1 : Hid ((L0 ++ spI t p s j).length + 1 ≤ maxLen) := hide (by rw [hll]; have := HN.out; unfold maxLen; omega)
              have S2 : Hid (((L0 ++ spI t p s j).length + 1) * 16 ≤ 140737488355328) := hide (by rw [hll]; have := HN.out; omega)
              generalize spI t p s j = L1 at *
              generalize exSz t (s + j) = y at *
              obtain ⟨x, hx⟩ : ∃ x, x = p + (szP t (s + j) - szP t s) := ⟨_, rfl⟩
              rw [← hx] at HPJ ⊢
              have HXE := hide hx
              have hxb : 0 ≤ x ∧ x ≤ 1000000 + 100000 * 1000 := by omega
              clear hx hzb
              obtain ⟨q, hq⟩ : ∃ q, q = s + j := ⟨_, rfl⟩
              rw [← hq] at hll HPZ hsn c3 HO ⊢
              have hq2 := HN.out
              have S3 : Hid (w0.heap.size ≤ (wr.alloc (.cells #[.int .i64 x, .int .i64 y] 87)).heap.size) := hide (by have h2 := HY.out.size; rw [World.size_alloc]; omega)
              have j1 : (j : Int) < (m : Int) := by omega
              have j0 : (0 : Int) ≤ (j : Int) := by omega
              have j8 : IntKind.i64.wrap ((j : Int) + 1) = (j : Int) + 1 := by rw [IntKind.wrap_i64]; omega
              have j9 : IntKind.i64.wrap (x + y) = x + y := by rw [IntKind.wrap_i64]; omega
              have q1 : (q : Int) < (n : Int) := by omega
              have q0 : (0 : Int) ≤ (q : Int) := by omega
              have HQ := hide hq
              clear hq hll
              go_wp2_with (at_builtin; refine wpList_append_at _ rfl (.tmp 52) (.tmp 56) 83 rfl w0.heap.size 87 i0_ _ 16 Try.underlying83 hi0 hz0 hz1 hz2 rfl (by omega) len_e2 one_e2 _ _ (by rfl) (HO.out.ext (Ext.alloc _ _)) (some ⟨wr.heap.size, 0, none⟩) 1 1 [(x, y)] (by rfl) (At.pair1 wr x y _) S1.out S2.out S3.out ?_; intro v7 w7 o7 g7 _ _; have O7 := hide o7; have G7 := hide g7; clear o7 g7)
              have E7 := hide (Own.below (HO.out.ext (Ext.alloc _ _)) (Ext.trans HY.out (Ext.alloc _ _)) G7.out (Nat.le_refl _))
              exact ⟨⟨j + 1, by omega, by go_num, int_val (by rw [HPZ.out]; have h9 := HXE.out; rw [← HQ.out] at h9; omega), hide (by rw [HPJ.out, ← List.append_assoc]; exact O7.out), hide E7⟩, by simp [intOf]; omega⟩
            · obtain rfl : j = m := by omega
              clear hjm hj
              go_wp2_with fail
              exact ⟨⟨k + 1, run, by omega, by go_num, rfl, hide (fun _ => by obtain ⟨h1, h2⟩ := HRI.out; exact ⟨h1, by omega⟩), hide (by rw [HSU.out]; exact HO.out), HY⟩, by simp [intOf]; omega⟩
    · obtain rfl : k = pn := by omega
      have HE : Hid (spS t = spC t k) := hide (by unfold spS; rw [HPL.out])
      clear hlt
      go_wp2_with fail
      go_ret
      exact ⟨_, rfl, by rw [HE.out]; exact HO.out.more F0.out.size, Ext.trans F0.out HX.out⟩
def EgO (w : World) (t : Tab) (e : Ending) (w' : World) : Prop :=
  ∃ A n c B m d, e = .returned (.tuple #[.slice A n c, .slice B m d, .int .i64 (expF t)]) ∧ Own w' w.heap.size 44 5 eSm (.slice A n c) (if expF t = 0 then exS t else []) ∧ Own w' w.heap.size 87 2 e2 (.slice B m d) (if expF t = 0 then spS t else []) ∧ Ext w w'
theorem ego_bad {w w' : World} {t : Tab} {f : Int} (h : expF t = f) (hf : f ≠ 0) (he : Ext w w') : EgO w t (.returned (.tuple #[.slice none 0 0, .slice none 0 0, .int .i64 f])) w' :=
  ⟨none, 0, 0, none, 0, 0, by rw [h], by rw [if_neg (by omega)]; exact Own.nil _ _ _ _ _, by rw [if_neg (by omega)]; exact Own.nil _ _ _ _ _, he⟩
theorem ego_good {w w' : World} {t : Tab} {A : Option Addr} {n c : Nat} {B : Option Addr} {m d b1 b2 : Nat} (h : expF t = 0) (h1 : Own w' b1 44 5 eSm (.slice A n c) (exS t)) (h2 : Own w' b2 87 2 e2 (.slice B m d) (spS t)) (he : Ext w w') (hb1 : w.heap.size ≤ b1) (hb2 : w.heap.size ≤ b2) : EgO w t (.returned (.tuple #[.slice A n c, .slice B m d, .int .i64 0])) w' :=
  ⟨A, n, c, B, m, d, by rw [h], by rw [if_pos h]; exact h1.more hb1, by rw [if_pos h]; exact h2.more hb2, he⟩
theorem expF_tab {t : Tab} (h : tabF t ≠ 0) : expF t = tabF t := by unfold expF; rw [if_pos h]
theorem expF_big {t : Tab} (h : tabF t = 0) (h1 : (spS t).any bigS = true) : expF t = 1 := by unfold expF; rw [if_neg (by omega), if_pos h1]
theorem expF_ok {t : Tab} (h : tabF t = 0) (h1 : (spS t).any bigS = false) : expF t = 0 := by unfold expF; rw [if_neg (by omega), if_neg (by rw [h1]; simp)]
theorem flat_setF {α : Type} {enc : α → List Value} {sz : Nat} (hsz : ∀ x, (enc x).length = sz) (d : α) : ∀ (xs : List α) (k j : Nat) (x : α) (u : Value), k < xs.length → j < sz → enc x = (enc (xs.getD k d)).set j u → (xs.flatMap enc).set (k * sz + j) u = (xs.set k x).flatMap enc
  | [], k, _, _, _, hk, _, _ => absurd hk (Nat.not_lt_zero _)
  | y :: ys, 0, j, x, u, _, hj, hx => by
    have hy := hsz y
    rw [List.set_cons_zero, List.flatMap_cons, List.flatMap_cons, Nat.zero_mul, Nat.zero_add, List.set_append_left _ _ (by omega), hx]
    rfl
  | y :: ys, k + 1, j, x, u, hk, hj, hx => by
    have hy := hsz y
    rw [List.set_cons_succ, List.flatMap_cons, List.flatMap_cons, ← flat_setF hsz d ys k j x u (by simpa using hk) hj (by simpa using hx)]
    rw [List.set_append_right _ _ (by rw [hy, Nat.add_mul]; omega), hy]
    congr 2
    rw [Nat.add_mul]; omega
theorem Own.rowF {α : Type} {w : World} {base : Nat} {t : TypeId} {sz : Nat} {enc : α → List Value} {g n c : Nat} {xs : List α} (h : Own w base t sz enc (.slice (some ⟨g, 0, none⟩) n c) xs) :
    ∃ cur, Blk w g t cur ∧ n ≤ c ∧ c ≤ maxLen ∧ cur.size = c * sz ∧ xs.length = n ∧ cur.toList.take (n * sz) = xs.flatMap enc ∧ base ≤ g := by
  obtain ⟨h0, h⟩ := h
  rcases h with ⟨hv, _⟩ | ⟨g', cap, cur, hv, hb, hg, hnc, hcm, hcs, ht⟩
  · cases hv
  · injection hv with h1 h2 h3
    injection h1 with h1
    injection h1 with h1
    subst h1 h3
    exact ⟨cur, hg, by omega, hcm, hcs, h2.symm, by rw [h2]; rw [← ht], hb⟩
theorem Own.frozenF {α : Type} {w : World} {base : Nat} {t : TypeId} {sz : Nat} {enc : α → List Value} {g n c : Nat} {xs : List α} (h : Own w base t sz enc (.slice (some ⟨g, 0, none⟩) n c) xs) (i : Nat) : w.frozen? ⟨g, i, none⟩ = false := by
  obtain ⟨cur, hg, _⟩ := h.rowF
  exact hg.frozen i
theorem Own.setF {α : Type} {w : World} {base : Nat} {t : TypeId} {sz : Nat} {enc : α → List Value} {g n c : Nat} {xs : List α} (hsz : ∀ x, (enc x).length = sz) (h : Own w base t sz enc (.slice (some ⟨g, 0, none⟩) n c) xs) (d : α) (k j : Nat) (hk : k < n) (hj : j < sz) (x : α) (u : Value) (hx : enc x = (enc (xs.getD k d)).set j u) :
    Own (w.setCell ⟨g, k * sz + j, none⟩ u) base t sz enc (.slice (some ⟨g, 0, none⟩) n c) (xs.set k x) := by
  obtain ⟨cur, hg, hnc, hcm, hcs, hl, ht, hb⟩ := h.rowF
  refine ⟨by rw [flat_len hsz], .inr ⟨g, c, _, by rw [List.length_set, hl], hb, hg.set_ (k * sz + j) u, by rw [List.length_set, hl]; exact hnc, hcm, by simp [hcs], ?_⟩⟩
  rw [List.length_set, hl, Array.toList_setIfInBounds, List.take_set, ht]
  exact flat_setF hsz d xs k j x u (by omega) hj hx
end Go.Proofs.Ytkbmgakehlmcnaa
