/- Walks: Keeps (both); promises in an argument, opened. Conditions as stated. -/
import Derived.Test.YtjbgkoeojfmkkaaHeldZ
import Derived.Test.YtjbgkoeojfmkkaaPrmA
import Derived.Test.YtjbgkoeojfmkkaaShows
namespace Go.Proofs.Ytjbgkoeojfmkkaa
open Go.RowKit
section
variable {P : Program} {ops : Array Oper} {Q : Exit → Act → World → Prop} {md : Region.Mode} {S : World → Prop}
/-- An operation is taken first under S; its slot is given as a number. -/
theorem held_take {i d : Nat} {oi : Oper} {v : Value} {fuel : Nat} {L : Array Bool} {a : Act} {w : World} (hi : ops[i]? = some oi) (hd : oi.dst = some d)
    (hs : Region.noSelect ops = true) (hf : Region.free md ops L i = true) (hr : (Region.ready md ops L).contains i = true)
    (hQ : ∀ c a w, Q (.panic c) (a.put oi.dst v) w → Q (.panic c) a w) (hy : YieldsIf P ops S oi v a) (hS : S w)
    (h : wpAnyH P md ops Q S fuel (L.setIfInBounds i true) (a.put (some d) v) w) : wpAnyH P md ops Q S (fuel + 1) L a w :=
  wpAnyH_take hi hs hf hr hQ hy hS (by rw [hd]; exact h)
end
end Go.Proofs.Ytjbgkoeojfmkkaa
namespace Go.Proofs.Ytjbgkoeojfmkkaa
open Go.RowKit
theorem Try.infoK : (Try.prog.info? 3).map (fun i => (i.zero, i.size, i.bytes)) = some (some (.int .i64 0), 1, 8) := by kernel_rfl
theorem ret_pairK {a c : Bool} {b d : Int} (h1 : a = c) (h2 : b = d) : Ending.returned (.tuple #[.bool a, .int .i64 b]) = .returned (.tuple #[.bool c, .int .i64 d]) := by rw [h1, h2]
/-- The begins of windows. -/
def kpL (T : List (Int × Int)) (gw u : Int) : List Int := [0, u - gw] ++ T.flatMap (fun x => [x.1, x.1 - gw])
theorem kpL_snoc {T : List (Int × Int)} {gw u : Int} {k : Nat} (hk : k < T.length) : kpL (T.take (k + 1)) gw u = kpL (T.take k) gw u ++ [(T.getD k (0, 0)).1, (T.getD k (0, 0)).1 - gw] := by
  unfold kpL
  rw [List.take_succ_eq_append_getElem hk, List.flatMap_append]
  simp [List.getD, hk]
theorem kpL_len (T : List (Int × Int)) (gw u : Int) : (kpL T gw u).length = 2 + 2 * T.length := by
  unfold kpL
  induction T with
  | nil => rfl
  | cons x r ih => simp only [List.flatMap_cons, List.length_append, List.length_cons, List.length_nil] at *; omega
/-- Too little comes from a time on. -/
def kpN (T : List (Int × Int)) (gw gb u t : Int) : Bool := decide (0 ≤ t ∧ t + gw ≤ u ∧ camel T t (t + gw) < gb)
/-- The fault of Keeps, and what it says. -/
def kepF (T : List (Int × Int)) (gw gb u : Int) : Int := if trcF T ≠ 0 then trcF T else if prmF gw gb ≠ 0 then prmF gw gb else if u < 0 ∨ 1000000000000 < u then 1 else 0
def kepB (T : List (Int × Int)) (gw gb u : Int) : Bool := if kepF T gw gb u = 0 then !((kpL T gw u).any (kpN T gw gb u)) else false
theorem prmF_ok {gw gb : Int} (h : prmF gw gb = 0) : (1 ≤ gw ∧ gw ≤ 1000000) ∧ 1 ≤ gb ∧ gb ≤ 1000000000 := by
  unfold prmF at h
  split at h
  · omega
  · omega
theorem kp_mem {T : List (Int × Int)} {gw u : Int} {k : Nat} (h : trcF T = 0) (hg : 1 ≤ gw ∧ gw ≤ 1000000) (hu : 0 ≤ u ∧ u ≤ 1000000000000) (hk : k < (kpL T gw u).length) : -1000000 ≤ (kpL T gw u).getD k 0 ∧ (kpL T gw u).getD k 0 ≤ 1000000000000 := by
  have hm : (kpL T gw u).getD k 0 ∈ kpL T gw u := by
    rw [List.getD_eq_getElem?_getD, List.getElem?_eq_getElem hk]
    exact List.getElem_mem hk
  generalize (kpL T gw u).getD k 0 = y at *
  unfold kpL at hm
  rw [List.mem_append] at hm
  rcases hm with hm | hm
  · simp at hm
    omega
  · rw [List.mem_flatMap] at hm
    obtain ⟨x, hx, hy⟩ := hm
    obtain ⟨i, hi, hxi⟩ := List.getElem_of_mem hx
    have h1 := (trEl_zero ((trcF_zero h).2.2.1 i hi)).1
    have h2 : T.getD i (0, 0) = x := by simp [List.getD, hi, hxi]
    rw [h2] at h1
    simp at hy
    omega
theorem Own.new2 (w : World) (x y : Int) (t : TypeId) {base : Nat} (hb : base ≤ w.heap.size) : Own (w.alloc (.cells #[.int .i64 x, .int .i64 y] t)) base t 1 e64 (.slice (some ⟨w.heap.size, 0, none⟩) 2 2) [x, y] :=
  ⟨rfl, .inr ⟨w.heap.size, 2, #[.int .i64 x, .int .i64 y], rfl, hb, Blk.new w t _, Nat.le_refl _, by unfold maxLen; omega, rfl, rfl⟩⟩

theorem kpL_get {T : List (Int × Int)} {gw u : Int} {k : Nat} (hk : k < T.length) : (kpL T gw u).getD (2 + 2 * k) 0 = (T.getD k (0, 0)).1 := by
  have h1 := kpL_snoc (gw := gw) (u := u) hk
  have h2 : kpL T gw u = kpL (T.take (k + 1)) gw u ++ (T.drop (k + 1)).flatMap (fun x => [x.1, x.1 - gw]) := by
    unfold kpL
    rw [List.append_assoc, ← List.flatMap_append, List.take_append_drop]
  have h3 : (kpL (T.take k) gw u).length = 2 + 2 * k := by rw [kpL_len, List.length_take]; omega
  rw [h2, h1, List.append_assoc, List.getD_eq_getElem?_getD, List.getElem?_append_right (by omega)]
  simp [h3]
theorem any_get {l : List Int} {f : Int → Bool} {j : Nat} (hj : j < l.length) (h : f (l.getD j 0) = true) : l.any f = true := by
  rw [List.any_eq_true]
  refine ⟨l.getD j 0, ?_, h⟩
  rw [List.getD_eq_getElem?_getD, List.getElem?_eq_getElem hj]
  exact List.getElem_mem hj
theorem any_none {l : List Int} {f : Int → Bool} (h : ∀ i, i < l.length → f (l.getD i 0) = false) : l.any f = false := by
  rw [List.any_eq_false]
  intro x hx
  obtain ⟨i, hi, rfl⟩ := List.getElem_of_mem hx
  have := h i hi
  rw [List.getD_eq_getElem?_getD, List.getElem?_eq_getElem hi] at this
  simpa using this
set_option linter.unusedVariables false in
set_option maxRecDepth 100000 in
set_option maxHeartbeats 16000000 in
theorem keyKeeps_any {tA : Option Addr} {tn tc : Nat} {T : List (Int × Int)} {gw gb u : Int} {w : World} (hT : At w 2 e2 tA tn tc T) (hu64 : -9223372036854775808 ≤ u ∧ u ≤ 9223372036854775807) :
    Calls Try.prog 14 #[.slice tA tn tc, .agg #[.int .i64 gw, .int .i64 gb], .int .i64 u] w fun e w' => e = .returned (.tuple #[.bool (kepB T gw gb u), .int .i64 (kepF T gw gb u)]) ∧ Ext w w' := by
  obtain ⟨iK, hiK, hz0, hz1, hz2⟩ := info_parts Try.infoK
  have hlen := hT.len
  have hbt := hT.bound
  have HT := hide (fun (W : World) (hW : Ext w W) => keyTrace_any (hT.ext hW))
  have HP := hide (fun (W : World) => promiseFault_any gw gb W)
  have HTT := hide hT
  have HL := hide hlen
  have hvF : kepF T gw gb u = if trcF T ≠ 0 then trcF T else if prmF gw gb ≠ 0 then prmF gw gb else if u < 0 ∨ 1000000000000 < u then 1 else 0 := rfl
  have hvB : kepB T gw gb u = if kepF T gw gb u = 0 then !((kpL T gw u).any (kpN T gw gb u)) else false := rfl
  have HOK := hide (fun (h : prmF gw gb = 0) => prmF_ok h)
  have HTZ : Hid (trcF T = 0 → T.length ≤ 500) := hide (fun h => (trcF_zero h).2.1)
  have HCA : Hid (trcF T = 0 → ∀ W, Ext w W → ∀ f t : Int, 0 ≤ f → f ≤ t → t ≤ 2000000000000 → Calls Try.prog 38 #[.slice tA tn tc, .int .i64 f, .int .i64 t] W fun e w' => e = .returned (.int .i64 (camel T f t)) ∧ Ext W w') := hide (fun h W hW f t h1 h2 h3 => keyCameIn_any (hT.ext hW) h h1 h2 h3)
  have HCB : Hid (trcF T = 0 → ∀ k, k < (kpL T gw u).length → 1 ≤ gw ∧ gw ≤ 1000000 → 0 ≤ u ∧ u ≤ 1000000000000 → -1000000 ≤ (kpL T gw u).getD k 0 ∧ (kpL T gw u).getD k 0 ≤ 1000000000000) := hide (fun h k hk h1 h2 => kp_mem h h1 h2 hk)
  generalize kepF T gw gb u = vF at *
  generalize kepB T gw gb u = vB at *
  generalize trcF T = q1 at *
  generalize prmF gw gb = q2 at *
  have HV := hide (And.intro hvF hvB)
  clear hT hlen hvF hvB
  have HX : Hid (Ext w (w.alloc (.cells #[.int .i64 gw, .int .i64 gb] 44))) := hide (Ext.alloc _ _)
  have HB := hide (Blk.new w 44 #[.int .i64 gw, .int .i64 gb])
  go_enter Try.func14, Try.ntmps14
  go_wp2_with fail
  refine gen_wpC fun W0 h0 => ?_
  have B0 := hide (show Blk W0 w.heap.size 44 #[.int .i64 gw, .int .i64 gb] from by rw [h0]; exact HB.out)
  have X0 := hide (show Ext w W0 from by rw [h0]; exact HX.out)
  clear h0 HB HX
  have HS : Hid (∀ w', Ext W0 w' → w'.cell? ⟨w.heap.size, 0, none⟩ = some (.int .i64 gw) ∧ w'.cell? ⟨w.heap.size, 1, none⟩ = some (.int .i64 gb)) := hide (fun w' EX => ⟨EX.cell (B0.out.cell 0), EX.cell (B0.out.cell 1)⟩)
  have EX := Ext.drew W0
  go_region_held3 (fun w' => w'.cell? ⟨w.heap.size, 0, none⟩ = some (.int .i64 gw) ∧ w'.cell? ⟨w.heap.size, 1, none⟩ = some (.int .i64 gb)) (first
    | (with_reducible exact HS.out _ EX)
    | (with_reducible exact HS.out _ (Ext.trans EX (Ext.alloc _ _)))) (first
    | (go_at_call 35; (with_reducible refine (HT.out _ (Ext.trans X0.out EX)).mono ?_); rintro e w5 ⟨rfl, e5⟩; have EX := Ext.trans EX e5; clear e5)
    | (go_at_call 36; (with_reducible refine (HP.out _).mono ?_); rintro e w5 ⟨rfl, e5⟩; have EX := Ext.trans EX e5; clear e5)
    | (go_at_call 34; (with_reducible refine (first_any (At.new2 _ q1 q2 34)).mono ?_); rintro e w6 ⟨rfl, e6⟩; have EX := Ext.trans (Ext.trans EX (Ext.alloc _ _)) e6; clear e6))
  all_goals (
    refine gen_the fun W1 h1 => ?_
    have X1 := hide (show Ext w W1 from by rw [h1]; exact Ext.trans X0.out EX)
    have B1 := hide (show Blk W1 w.heap.size 44 #[.int .i64 gw, .int .i64 gb] from by rw [h1]; exact B0.out.ext EX)
    clear h1 EX HS B0 X0
    have hf : firstNZ [q1, q2] = if q1 ≠ 0 then q1 else if q2 ≠ 0 then q2 else 0 := rfl
    generalize firstNZ [q1, q2] = qf at *
    by_cases hq : qf = 0
    rotate_left
    · have i1 : (qf != 0) = true := by simp [hq]
      have HVF : Hid (vF = qf ∧ vB = false) := hide (by obtain ⟨h1, h2⟩ := HV.out; have h3 : vF = qf := (by rw [h1, hf]; by_cases c1 : q1 = 0 <;> by_cases c2 : q2 = 0 <;> simp [c1, c2] at hf ⊢ <;> omega); exact ⟨h3, by rw [h2, if_neg (by omega)]⟩)
      clear hf hq
      go_wp2_with fail
      go_ret2
      exact ⟨ret_pairK HVF.out.2.symm HVF.out.1.symm, X1.out⟩
    have c1 : q1 = 0 := Classical.byContradiction fun c => by rw [hf, if_pos c] at hq; exact c hq
    have c2 : q2 = 0 := Classical.byContradiction fun c => by rw [hf, if_neg (by omega), if_pos c] at hq; exact c hq
    have i1 : (qf != 0) = false := by simp [hq]
    clear hf hq
    obtain ⟨⟨hg1, hg2⟩, hg3, hg4⟩ := HOK.out c2
    have hv1 : vF = if u < 0 ∨ 1000000000000 < u then 1 else 0 := by rw [HV.out.1, if_neg (by omega), if_neg (by omega)]
    have HTZ1 := HTZ.out c1
    have HCA1 := hide (HCA.out c1)
    have HCB1 := hide (HCB.out c1)
    clear HTZ HCA HCB HOK c1 c2
    by_cases hr : u < 0 ∨ 1000000000000 < u
    · have HVF : Hid (vF = 1 ∧ vB = false) := hide (by rw [if_pos hr] at hv1; exact ⟨hv1, by rw [HV.out.2, if_neg (by omega)]⟩)
      clear hv1
      go_wp2_with (first | ((go_at_call 37; with_reducible refine (out_no ?_ _).mono ?_); (focus omega); rintro e w' ⟨rfl, rfl⟩) | ((go_at_call 37; with_reducible refine (out_yes ?_ _).mono ?_); (focus omega); rintro e w' ⟨rfl, rfl⟩))
      go_ret2
      exact ⟨ret_pairK HVF.out.2.symm HVF.out.1.symm, X1.out⟩
    have HV1 : Hid (vF = 0 ∧ vB = !((kpL T gw u).any (kpN T gw gb u))) := hide (by rw [if_neg hr] at hv1; exact ⟨hv1, by rw [HV.out.2, if_pos hv1]⟩)
    have hu0 : 0 ≤ u := by omega
    have hu1 : u ≤ 1000000000000 := by omega
    clear hv1 HV hr hu64
    have g0 := B1.out.cell 0
    have g1 := B1.out.cell 1
    have wu : IntKind.i64.wrap (u - gw) = u - gw := by rw [IntKind.wrap_i64]; omega
    go_wp2_with (first | ((go_at_call 37; with_reducible refine (out_no ?_ _).mono ?_); (focus omega); rintro e w' ⟨rfl, rfl⟩) | ((go_at_call 37; with_reducible refine (out_yes ?_ _).mono ?_); (focus omega); rintro e w' ⟨rfl, rfl⟩))
    go_loopw [9, 32] (fun rb ri wr => ∃ k : Nat, k ≤ tn ∧ ri = .int .i64 k ∧ Hid (Own wr W1.heap.size 3 1 e64 rb (kpL (T.take k) gw u)) ∧ Hid (Ext W1 wr)) (fun _ ri _ => tn - (intOf ri).toNat)
    case atStart => exact ⟨0, by omega, rfl, hide (by have := Own.new2 W1 0 (u - gw) 3 (Nat.le_refl _); simpa [kpL] using this), hide (Ext.alloc _ _)⟩
    case round =>
      obtain ⟨k, hk, rfl, HO, HX1⟩ := hrel
      by_cases hlt : k < tn
      · obtain ⟨b, off, hA, _⟩ := HTT.out.addr (by omega)
        subst hA
        obtain ⟨a1, a2⟩ := (HTT.out.ext (Ext.trans X1.out HX1.out)).pair hlt
        have hTk := kpL_snoc (gw := gw) (u := u) (show k < T.length by have := HL.out; omega)
        have HTK := hide hTk
        have hbd := HCB1.out (2 + 2 * k) (by rw [kpL_len]; have := HL.out; omega) ⟨hg1, hg2⟩ ⟨hu0, hu1⟩
        have hbd2 : (kpL T gw u).getD (2 + 2 * k) 0 = (T.getD k (0, 0)).1 := kpL_get (by have := HL.out; omega)
        rw [hbd2] at hbd
        clear hTk hbd2
        have hln : (kpL (T.take k) gw u).length = 2 + 2 * k := by rw [kpL_len, List.length_take]; have := HL.out; omega
        have HLN := hide hln
        clear hln
        generalize (T.getD k (0, 0)).1 = xk at *
        generalize (T.getD k (0, 0)).2 = yk at *
        obtain ⟨hb1, hb2⟩ := hbd
        have wx : IntKind.i64.wrap (xk - gw) = xk - gw := by rw [IntKind.wrap_i64]; omega
        have g0' : wr.cell? ⟨w.heap.size, 0, none⟩ = some (.int .i64 gw) := HX1.out.cell g0
        have g0'' : (wr.alloc (.cells #[.int .i64 xk, .int .i64 yk] 69)).cell? ⟨w.heap.size, 0, none⟩ = some (.int .i64 gw) := (Ext.alloc _ _).cell g0'
        have N9 : At ((wr.alloc (.cells #[.int .i64 xk, .int .i64 yk] 69)).alloc (.cells #[.int .i64 xk, .int .i64 (xk - gw)] 3)) 1 e64 (some ⟨wr.heap.size + 1, 0, none⟩) 2 2 [xk, xk - gw] := by have h9 := At.new2 (wr.alloc (.cells #[.int .i64 xk, .int .i64 yk] 69)) xk (xk - gw) 3; rw [World.size_alloc] at h9; exact h9
        have OO := hide (HO.out.ext (Ext.trans (Ext.alloc _ (.cells #[.int .i64 xk, .int .i64 yk] 69)) (Ext.alloc _ (.cells #[.int .i64 xk, .int .i64 (xk - gw)] 3))))
        go_wp2_with (at_builtin; go_loud (refine wpList_append_at _ rfl (.tmp 36) (.tmp 44) 22 rfl W1.heap.size 3 iK _ 8 Try.underlying22 hiK hz0 hz1 hz2 rfl (by omega) len_e64 one_e64 _ (kpL (T.take k) gw u) rfl OO.out (some ⟨wr.heap.size + 1, 0, none⟩) 2 2 [xk, xk - gw] rfl N9 ?b1 ?b2 ?b3 ?_))
        case b1 => have := HLN.out; have := HL.out; unfold maxLen; simp; omega
        case b2 => have := HLN.out; have := HL.out; simp; omega
        case b3 => have := HX1.out.size; simp only [World.size_alloc]; omega
        intro rb' w9 o9 g9 _ hob
        have O9 : Hid (Own w9 W1.heap.size 3 1 e64 rb' (kpL (T.take (k + 1)) gw u)) := hide (by rw [HTK.out]; exact o9)
        have X9 : Hid (Ext W1 w9) := hide (Own.below OO.out (Ext.trans HX1.out (Ext.trans (Ext.alloc _ _) (Ext.alloc _ _))) g9 (Nat.le_refl _))
        clear o9 g9 hob OO HO
        go_wp2_with fail
        first | (go_roundw; (case rel => exact ⟨k + 1, by omega, by go_num, O9, X9⟩); (case measure => simp [intOf]; omega)) | exact ⟨⟨k + 1, by omega, by go_num, O9, X9⟩, by simp [intOf]; omega⟩
      have hkn : k = tn := by omega
      subst hkn
      have ho := HO.out
      rw [List.take_of_length_le (by have := HL.out; omega)] at ho
      obtain ⟨rA, rc, hrv, ra⟩ := ho.at_ len_e64
      subst hrv
      have RA := hide ra
      have hKL : (kpL T gw u).length ≤ 1002 := by rw [kpL_len]; omega
      have HX2 := hide (Ext.trans X1.out HX1.out)
      have B2 := hide (B1.out.ext HX1.out)
      obtain ⟨n2, hn2⟩ : ∃ n2, n2 = (kpL T gw u).length := ⟨_, rfl⟩
      rw [← hn2] at RA
      have HN2 := hide hn2
      have hn22 : n2 ≤ 1002 := by omega
      have h0 : ¬ (k : Int) < (k : Int) := by omega
      clear ho ra HO hn2 hKL hlt HX1 B1 X1 g0 g1
      rw [← HN2.out]
      generalize hwo : wr = wo at *
      clear hwo
      go_wp2_with fail
      go_loopw [49] (fun ri wr => ∃ j : Nat, j ≤ n2 ∧ ri = .int .i64 j ∧ Hid (∀ i, i < j → kpN T gw gb u ((kpL T gw u).getD i 0) = false) ∧ Hid (Ext wo wr)) (fun ri _ => n2 - (intOf ri).toNat)
      case atStart => exact ⟨0, by omega, rfl, hide (fun i hi => absurd hi (by omega)), hide (Ext.refl _)⟩
      case round =>
        obtain ⟨j, hj, rfl, HJ, HX3⟩ := hrel
        by_cases hlt : j < n2
        · obtain ⟨b2, off2, hA, _⟩ := RA.out.addr (by omega)
          subst hA
          have a1 := (RA.out.ext HX3.out).num hlt
          obtain ⟨hb1, hb2⟩ := HCB1.out j (by have := HN2.out; omega) ⟨hg1, hg2⟩ ⟨hu0, hu1⟩
          have hkp : kpN T gw gb u ((kpL T gw u).getD j 0) = decide (0 ≤ (kpL T gw u).getD j 0 ∧ (kpL T gw u).getD j 0 + gw ≤ u ∧ camel T ((kpL T gw u).getD j 0) ((kpL T gw u).getD j 0 + gw) < gb) := rfl
          have HJ1 : Hid (kpN T gw gb u ((kpL T gw u).getD j 0) = false → ∀ i, i < j + 1 → kpN T gw gb u ((kpL T gw u).getD i 0) = false) := hide (fun h i hi => (Nat.lt_or_ge i j).elim (HJ.out i) (fun h1 => by rw [show i = j by omega]; exact h))
          have HJ2 : Hid (kpN T gw gb u ((kpL T gw u).getD j 0) = true → (kpL T gw u).any (kpN T gw gb u) = true) := hide (fun h => any_get (by have := HN2.out; omega) h)
          generalize kpN T gw gb u ((kpL T gw u).getD j 0) = kp at *
          generalize (kpL T gw u).getD j 0 = y at *
          have HCC : Hid (0 ≤ y → ∀ W, Ext wo W → Calls Try.prog 38 #[.slice tA k tc, .int .i64 y, .int .i64 (y + gw)] W fun e w' => e = .returned (.int .i64 (camel T y (y + gw))) ∧ Ext W w') := hide (fun h W hW => HCA1.out W (Ext.trans HX2.out hW) y (y + gw) h (by omega) (by omega))
          generalize camel T y (y + gw) = cy at *
          have HKP := hide hkp
          have wy : IntKind.i64.wrap (y + gw) = y + gw := by rw [IntKind.wrap_i64]; omega
          have g0 : wr.cell? ⟨w.heap.size, 0, none⟩ = some (.int .i64 gw) := HX3.out.cell (B2.out.cell 0)
          have g1 : wr.cell? ⟨w.heap.size, 1, none⟩ = some (.int .i64 gb) := HX3.out.cell (B2.out.cell 1)
          have i0 : (j : Int) < (n2 : Int) := by omega
          have HX4 := hide (Ext.trans HX3.out (Ext.drew wr))
          clear hkp HJ
          rcases Int.lt_or_le y 0 with hy0 | hy0
          · clear HCC
            have hy0 : y < 0 := by omega
            have d0 : decide (0 ≤ y) = false := by simp; omega
            have HKF : Hid (kp = false) := hide (by rw [HKP.out]; exact decide_eq_false (by omega))
            go_upto_region 15 with (fail)
            refine wp_region_held_drew (S := fun w' => w'.cell? ⟨w.heap.size, 0, none⟩ = some (.int .i64 gw) ∧ w'.cell? ⟨w.heap.size, 1, none⟩ = some (.int .i64 gb)) (by kernel_rfl) (⟨g0, g1⟩) (fun hS => ?_)
            refine held_take (i := 0) (d := 53) (oi := _) (v := ?_) rfl rfl (by kernel_rfl) (by kernel_rfl) (by kernel_rfl) (fun _ _ _ h => h) (Or.inl ⟨by rfl, ?_⟩) hS ?_
            rotate_left
            · intro W hW; obtain ⟨s0, s1⟩ := hW; first | (go_simp; done) | (go_simp; with_reducible rfl)
            try simp only [Act.put, List.setIfInBounds_toArray, List.set_cons_zero, List.set_cons_succ]
            refine held_take (i := 1) (d := 54) (oi := _) (v := ?_) rfl rfl (by kernel_rfl) (by kernel_rfl) (by kernel_rfl) (fun _ _ _ h => h) (Or.inl ⟨by rfl, ?_⟩) hS ?_
            rotate_left
            · intro W hW; obtain ⟨s0, s1⟩ := hW; first | (go_simp; done) | (go_simp; with_reducible rfl)
            try simp only [Act.put, List.setIfInBounds_toArray, List.set_cons_zero, List.set_cons_succ]
            refine held_take (i := 2) (d := 55) (oi := _) (v := ?_) rfl rfl (by kernel_rfl) (by kernel_rfl) (by kernel_rfl) (fun _ _ _ h => h) (Or.inl ⟨by rfl, ?_⟩) hS ?_
            rotate_left
            · intro W hW; obtain ⟨s0, s1⟩ := hW; first | (go_simp; done) | (go_simp; with_reducible rfl)
            try simp only [Act.put, List.setIfInBounds_toArray, List.set_cons_zero, List.set_cons_succ]
            refine held_take (i := 3) (d := 56) (oi := _) (v := undef) rfl rfl (by kernel_rfl) (by kernel_rfl) (by kernel_rfl) (fun _ _ _ h => h) (Or.inr ⟨by rfl, rfl⟩) hS ?_
            try simp only [Act.put, List.setIfInBounds_toArray, List.set_cons_zero, List.set_cons_succ]
            refine held_take (i := 4) (d := 57) (oi := _) (v := undef) rfl rfl (by kernel_rfl) (by kernel_rfl) (by kernel_rfl) (fun _ _ _ h => h) (Or.inr ⟨by rfl, rfl⟩) hS ?_
            try simp only [Act.put, List.setIfInBounds_toArray, List.set_cons_zero, List.set_cons_succ]
            refine held_take (i := 5) (d := 58) (oi := _) (v := undef) rfl rfl (by kernel_rfl) (by kernel_rfl) (by kernel_rfl) (fun _ _ _ h => h) (Or.inr ⟨by rfl, rfl⟩) hS ?_
            try simp only [Act.put, List.setIfInBounds_toArray, List.set_cons_zero, List.set_cons_succ]
            refine held_take (i := 6) (d := 59) (oi := _) (v := undef) rfl rfl (by kernel_rfl) (by kernel_rfl) (by kernel_rfl) (fun _ _ _ h => h) (Or.inr ⟨by rfl, rfl⟩) hS ?_
            try simp only [Act.put, List.setIfInBounds_toArray, List.set_cons_zero, List.set_cons_succ]
            refine held_take (i := 7) (d := 60) (oi := _) (v := undef) rfl rfl (by kernel_rfl) (by kernel_rfl) (by kernel_rfl) (fun _ _ _ h => h) (Or.inr ⟨by rfl, rfl⟩) hS ?_
            try simp only [Act.put, List.setIfInBounds_toArray, List.set_cons_zero, List.set_cons_succ]
            refine held_take (i := 8) (d := 61) (oi := _) (v := undef) rfl rfl (by kernel_rfl) (by kernel_rfl) (by kernel_rfl) (fun _ _ _ h => h) (Or.inr ⟨by rfl, rfl⟩) hS ?_
            try simp only [Act.put, List.setIfInBounds_toArray, List.set_cons_zero, List.set_cons_succ]
            refine held_take (i := 9) (d := 62) (oi := _) (v := ?_) rfl rfl (by kernel_rfl) (by kernel_rfl) (by kernel_rfl) (fun _ _ _ h => h) (Or.inl ⟨by rfl, ?_⟩) hS ?_
            rotate_left
            · intro W hW; obtain ⟨s0, s1⟩ := hW; first | (go_simp; done) | (go_simp; with_reducible rfl)
            try simp only [Act.put, List.setIfInBounds_toArray, List.set_cons_zero, List.set_cons_succ]
            refine held_take (i := 10) (d := 63) (oi := _) (v := ?_) rfl rfl (by kernel_rfl) (by kernel_rfl) (by kernel_rfl) (fun _ _ _ h => h) (Or.inl ⟨by rfl, ?_⟩) hS ?_
            rotate_left
            · intro W hW; obtain ⟨s0, s1⟩ := hW; first | (go_simp; done) | (go_simp; with_reducible rfl)
            try simp only [Act.put, List.setIfInBounds_toArray, List.set_cons_zero, List.set_cons_succ]
            refine held_take (i := 11) (d := 64) (oi := _) (v := undef) rfl rfl (by kernel_rfl) (by kernel_rfl) (by kernel_rfl) (fun _ _ _ h => h) (Or.inr ⟨by rfl, rfl⟩) hS ?_
            try simp only [Act.put, List.setIfInBounds_toArray, List.set_cons_zero, List.set_cons_succ]
            refine held_take (i := 12) (d := 65) (oi := _) (v := undef) rfl rfl (by kernel_rfl) (by kernel_rfl) (by kernel_rfl) (fun _ _ _ h => h) (Or.inr ⟨by rfl, rfl⟩) hS ?_
            try simp only [Act.put, List.setIfInBounds_toArray, List.set_cons_zero, List.set_cons_succ]
            refine held_take (i := 13) (d := 66) (oi := _) (v := undef) rfl rfl (by kernel_rfl) (by kernel_rfl) (by kernel_rfl) (fun _ _ _ h => h) (Or.inr ⟨by rfl, rfl⟩) hS ?_
            try simp only [Act.put, List.setIfInBounds_toArray, List.set_cons_zero, List.set_cons_succ]
            refine held_take (i := 14) (d := 67) (oi := _) (v := undef) rfl rfl (by kernel_rfl) (by kernel_rfl) (by kernel_rfl) (fun _ _ _ h => h) (Or.inr ⟨by rfl, rfl⟩) hS ?_
            try simp only [Act.put, List.setIfInBounds_toArray, List.set_cons_zero, List.set_cons_succ]
            refine held_take (i := 15) (d := 68) (oi := _) (v := undef) rfl rfl (by kernel_rfl) (by kernel_rfl) (by kernel_rfl) (fun _ _ _ h => h) (Or.inr ⟨by rfl, rfl⟩) hS ?_
            try simp only [Act.put, List.setIfInBounds_toArray, List.set_cons_zero, List.set_cons_succ]
            refine held_take (i := 16) (d := 69) (oi := _) (v := undef) rfl rfl (by kernel_rfl) (by kernel_rfl) (by kernel_rfl) (fun _ _ _ h => h) (Or.inr ⟨by rfl, rfl⟩) hS ?_
            try simp only [Act.put, List.setIfInBounds_toArray, List.set_cons_zero, List.set_cons_succ]
            refine held_take (i := 18) (d := 71) (oi := _) (v := undef) rfl rfl (by kernel_rfl) (by kernel_rfl) (by kernel_rfl) (fun _ _ _ h => h) (Or.inr ⟨by rfl, rfl⟩) hS ?_
            try simp only [Act.put, List.setIfInBounds_toArray, List.set_cons_zero, List.set_cons_succ]
            refine held_take (i := 19) (d := 72) (oi := _) (v := undef) rfl rfl (by kernel_rfl) (by kernel_rfl) (by kernel_rfl) (fun _ _ _ h => h) (Or.inr ⟨by rfl, rfl⟩) hS ?_
            try simp only [Act.put, List.setIfInBounds_toArray, List.set_cons_zero, List.set_cons_succ]
            refine held_take (i := 17) (d := 70) (oi := _) (v := undef) rfl rfl (by kernel_rfl) (by kernel_rfl) (by kernel_rfl) (fun _ _ _ h => h) (Or.inr ⟨by rfl, rfl⟩) hS ?_
            try simp only [Act.put, List.setIfInBounds_toArray, List.set_cons_zero, List.set_cons_succ]
            refine held_take (i := 20) (d := 73) (oi := _) (v := undef) rfl rfl (by kernel_rfl) (by kernel_rfl) (by kernel_rfl) (fun _ _ _ h => h) (Or.inr ⟨by rfl, rfl⟩) hS ?_
            try simp only [Act.put, List.setIfInBounds_toArray, List.set_cons_zero, List.set_cons_succ]
            refine held_take (i := 21) (d := 74) (oi := _) (v := ?_) rfl rfl (by kernel_rfl) (by kernel_rfl) (by kernel_rfl) (fun _ _ _ h => h) (Or.inl ⟨by rfl, ?_⟩) hS ?_
            rotate_left
            · intro W hW; obtain ⟨s0, s1⟩ := hW; first | (go_simp; done) | (go_simp; with_reducible rfl)
            try simp only [Act.put, List.setIfInBounds_toArray, List.set_cons_zero, List.set_cons_succ]
            refine wpAnyH_done (by kernel_rfl) ?_ _
            go_wp2_with fail
            first | (go_roundw; (case rel => exact ⟨j + 1, by omega, by go_num, hide (HJ1.out HKF.out), HX4⟩); (case measure => simp [intOf]; omega)) | exact ⟨⟨j + 1, by omega, by go_num, hide (HJ1.out HKF.out), HX4⟩, by simp [intOf]; omega⟩
          rcases Int.lt_or_le u (y + gw) with hy1 | hy1
          · clear HCC
            have d0 : decide (0 ≤ y) = true := by simp; omega
            have d1 : decide (y + gw ≤ u) = false := by simp; omega
            have HKF : Hid (kp = false) := hide (by rw [HKP.out]; exact decide_eq_false (by omega))
            go_upto_region 15 with (fail)
            refine wp_region_held_drew (S := fun w' => w'.cell? ⟨w.heap.size, 0, none⟩ = some (.int .i64 gw) ∧ w'.cell? ⟨w.heap.size, 1, none⟩ = some (.int .i64 gb)) (by kernel_rfl) (⟨g0, g1⟩) (fun hS => ?_)
            refine held_take (i := 0) (d := 53) (oi := _) (v := ?_) rfl rfl (by kernel_rfl) (by kernel_rfl) (by kernel_rfl) (fun _ _ _ h => h) (Or.inl ⟨by rfl, ?_⟩) hS ?_
            rotate_left
            · intro W hW; obtain ⟨s0, s1⟩ := hW; first | (go_simp; done) | (go_simp; with_reducible rfl)
            try simp only [Act.put, List.setIfInBounds_toArray, List.set_cons_zero, List.set_cons_succ]
            refine held_take (i := 1) (d := 54) (oi := _) (v := ?_) rfl rfl (by kernel_rfl) (by kernel_rfl) (by kernel_rfl) (fun _ _ _ h => h) (Or.inl ⟨by rfl, ?_⟩) hS ?_
            rotate_left
            · intro W hW; obtain ⟨s0, s1⟩ := hW; first | (go_simp; done) | (go_simp; with_reducible rfl)
            try simp only [Act.put, List.setIfInBounds_toArray, List.set_cons_zero, List.set_cons_succ]
            refine held_take (i := 2) (d := 55) (oi := _) (v := ?_) rfl rfl (by kernel_rfl) (by kernel_rfl) (by kernel_rfl) (fun _ _ _ h => h) (Or.inl ⟨by rfl, ?_⟩) hS ?_
            rotate_left
            · intro W hW; obtain ⟨s0, s1⟩ := hW; first | (go_simp; done) | (go_simp; with_reducible rfl)
            try simp only [Act.put, List.setIfInBounds_toArray, List.set_cons_zero, List.set_cons_succ]
            refine held_take (i := 3) (d := 56) (oi := _) (v := ?_) rfl rfl (by kernel_rfl) (by kernel_rfl) (by kernel_rfl) (fun _ _ _ h => h) (Or.inl ⟨by rfl, ?_⟩) hS ?_
            rotate_left
            · intro W hW; obtain ⟨s0, s1⟩ := hW; first | (go_simp; done) | (go_simp; with_reducible rfl)
            try simp only [Act.put, List.setIfInBounds_toArray, List.set_cons_zero, List.set_cons_succ]
            refine held_take (i := 4) (d := 57) (oi := _) (v := ?_) rfl rfl (by kernel_rfl) (by kernel_rfl) (by kernel_rfl) (fun _ _ _ h => h) (Or.inl ⟨by rfl, ?_⟩) hS ?_
            rotate_left
            · intro W hW; obtain ⟨s0, s1⟩ := hW; first | (go_simp; done) | (go_simp; with_reducible rfl)
            try simp only [Act.put, List.setIfInBounds_toArray, List.set_cons_zero, List.set_cons_succ]
            refine held_take (i := 5) (d := 58) (oi := _) (v := ?_) rfl rfl (by kernel_rfl) (by kernel_rfl) (by kernel_rfl) (fun _ _ _ h => h) (Or.inl ⟨by rfl, ?_⟩) hS ?_
            rotate_left
            · intro W hW; obtain ⟨s0, s1⟩ := hW; first | (go_simp; done) | (go_simp; with_reducible rfl)
            try simp only [Act.put, List.setIfInBounds_toArray, List.set_cons_zero, List.set_cons_succ]
            refine held_take (i := 6) (d := 59) (oi := _) (v := ?_) rfl rfl (by kernel_rfl) (by kernel_rfl) (by kernel_rfl) (fun _ _ _ h => h) (Or.inl ⟨by rfl, ?_⟩) hS ?_
            rotate_left
            · intro W hW; obtain ⟨s0, s1⟩ := hW; first | (go_simp; done) | (go_simp; with_reducible rfl)
            try simp only [Act.put, List.setIfInBounds_toArray, List.set_cons_zero, List.set_cons_succ]
            refine held_take (i := 7) (d := 60) (oi := _) (v := ?_) rfl rfl (by kernel_rfl) (by kernel_rfl) (by kernel_rfl) (fun _ _ _ h => h) (Or.inl ⟨by rfl, ?_⟩) hS ?_
            rotate_left
            · intro W hW; obtain ⟨s0, s1⟩ := hW; first | (go_simp; done) | (go_simp; with_reducible rfl)
            try simp only [Act.put, List.setIfInBounds_toArray, List.set_cons_zero, List.set_cons_succ]
            refine held_take (i := 8) (d := 61) (oi := _) (v := ?_) rfl rfl (by kernel_rfl) (by kernel_rfl) (by kernel_rfl) (fun _ _ _ h => h) (Or.inl ⟨by rfl, ?_⟩) hS ?_
            rotate_left
            · intro W hW; obtain ⟨s0, s1⟩ := hW; first | (go_simp; done) | (go_simp; with_reducible rfl)
            try simp only [Act.put, List.setIfInBounds_toArray, List.set_cons_zero, List.set_cons_succ]
            refine held_take (i := 9) (d := 62) (oi := _) (v := ?_) rfl rfl (by kernel_rfl) (by kernel_rfl) (by kernel_rfl) (fun _ _ _ h => h) (Or.inl ⟨by rfl, ?_⟩) hS ?_
            rotate_left
            · intro W hW; obtain ⟨s0, s1⟩ := hW; first | (go_simp; done) | (go_simp; with_reducible rfl)
            try simp only [Act.put, List.setIfInBounds_toArray, List.set_cons_zero, List.set_cons_succ]
            refine held_take (i := 10) (d := 63) (oi := _) (v := ?_) rfl rfl (by kernel_rfl) (by kernel_rfl) (by kernel_rfl) (fun _ _ _ h => h) (Or.inl ⟨by rfl, ?_⟩) hS ?_
            rotate_left
            · intro W hW; obtain ⟨s0, s1⟩ := hW; first | (go_simp; done) | (go_simp; with_reducible rfl)
            try simp only [Act.put, List.setIfInBounds_toArray, List.set_cons_zero, List.set_cons_succ]
            refine held_take (i := 11) (d := 64) (oi := _) (v := undef) rfl rfl (by kernel_rfl) (by kernel_rfl) (by kernel_rfl) (fun _ _ _ h => h) (Or.inr ⟨by rfl, rfl⟩) hS ?_
            try simp only [Act.put, List.setIfInBounds_toArray, List.set_cons_zero, List.set_cons_succ]
            refine held_take (i := 12) (d := 65) (oi := _) (v := undef) rfl rfl (by kernel_rfl) (by kernel_rfl) (by kernel_rfl) (fun _ _ _ h => h) (Or.inr ⟨by rfl, rfl⟩) hS ?_
            try simp only [Act.put, List.setIfInBounds_toArray, List.set_cons_zero, List.set_cons_succ]
            refine held_take (i := 13) (d := 66) (oi := _) (v := undef) rfl rfl (by kernel_rfl) (by kernel_rfl) (by kernel_rfl) (fun _ _ _ h => h) (Or.inr ⟨by rfl, rfl⟩) hS ?_
            try simp only [Act.put, List.setIfInBounds_toArray, List.set_cons_zero, List.set_cons_succ]
            refine held_take (i := 14) (d := 67) (oi := _) (v := undef) rfl rfl (by kernel_rfl) (by kernel_rfl) (by kernel_rfl) (fun _ _ _ h => h) (Or.inr ⟨by rfl, rfl⟩) hS ?_
            try simp only [Act.put, List.setIfInBounds_toArray, List.set_cons_zero, List.set_cons_succ]
            refine held_take (i := 15) (d := 68) (oi := _) (v := undef) rfl rfl (by kernel_rfl) (by kernel_rfl) (by kernel_rfl) (fun _ _ _ h => h) (Or.inr ⟨by rfl, rfl⟩) hS ?_
            try simp only [Act.put, List.setIfInBounds_toArray, List.set_cons_zero, List.set_cons_succ]
            refine held_take (i := 16) (d := 69) (oi := _) (v := undef) rfl rfl (by kernel_rfl) (by kernel_rfl) (by kernel_rfl) (fun _ _ _ h => h) (Or.inr ⟨by rfl, rfl⟩) hS ?_
            try simp only [Act.put, List.setIfInBounds_toArray, List.set_cons_zero, List.set_cons_succ]
            refine held_take (i := 18) (d := 71) (oi := _) (v := undef) rfl rfl (by kernel_rfl) (by kernel_rfl) (by kernel_rfl) (fun _ _ _ h => h) (Or.inr ⟨by rfl, rfl⟩) hS ?_
            try simp only [Act.put, List.setIfInBounds_toArray, List.set_cons_zero, List.set_cons_succ]
            refine held_take (i := 19) (d := 72) (oi := _) (v := undef) rfl rfl (by kernel_rfl) (by kernel_rfl) (by kernel_rfl) (fun _ _ _ h => h) (Or.inr ⟨by rfl, rfl⟩) hS ?_
            try simp only [Act.put, List.setIfInBounds_toArray, List.set_cons_zero, List.set_cons_succ]
            refine held_take (i := 17) (d := 70) (oi := _) (v := undef) rfl rfl (by kernel_rfl) (by kernel_rfl) (by kernel_rfl) (fun _ _ _ h => h) (Or.inr ⟨by rfl, rfl⟩) hS ?_
            try simp only [Act.put, List.setIfInBounds_toArray, List.set_cons_zero, List.set_cons_succ]
            refine held_take (i := 20) (d := 73) (oi := _) (v := undef) rfl rfl (by kernel_rfl) (by kernel_rfl) (by kernel_rfl) (fun _ _ _ h => h) (Or.inr ⟨by rfl, rfl⟩) hS ?_
            try simp only [Act.put, List.setIfInBounds_toArray, List.set_cons_zero, List.set_cons_succ]
            refine held_take (i := 21) (d := 74) (oi := _) (v := ?_) rfl rfl (by kernel_rfl) (by kernel_rfl) (by kernel_rfl) (fun _ _ _ h => h) (Or.inl ⟨by rfl, ?_⟩) hS ?_
            rotate_left
            · intro W hW; obtain ⟨s0, s1⟩ := hW; first | (go_simp; done) | (go_simp; with_reducible rfl)
            try simp only [Act.put, List.setIfInBounds_toArray, List.set_cons_zero, List.set_cons_succ]
            refine wpAnyH_done (by kernel_rfl) ?_ _
            go_wp2_with fail
            first | (go_roundw; (case rel => exact ⟨j + 1, by omega, by go_num, hide (HJ1.out HKF.out), HX4⟩); (case measure => simp [intOf]; omega)) | exact ⟨⟨j + 1, by omega, by go_num, hide (HJ1.out HKF.out), HX4⟩, by simp [intOf]; omega⟩
          rcases Int.lt_or_le cy gb with hy2 | hy2
          · skip
            have d0 : decide (0 ≤ y) = true := by simp; omega
            have d1 : decide (y + gw ≤ u) = true := by simp; omega
            have d2 : decide (cy < gb) = true := by simp; omega
            have HKF : Hid (kp = true) := hide (by rw [HKP.out]; exact decide_eq_true (by omega))
            go_upto_region 15 with (fail)
            refine wp_region_held_drew (S := fun w' => w'.cell? ⟨w.heap.size, 0, none⟩ = some (.int .i64 gw) ∧ w'.cell? ⟨w.heap.size, 1, none⟩ = some (.int .i64 gb)) (by kernel_rfl) (⟨g0, g1⟩) (fun hS => ?_)
            refine held_take (i := 0) (d := 53) (oi := _) (v := ?_) rfl rfl (by kernel_rfl) (by kernel_rfl) (by kernel_rfl) (fun _ _ _ h => h) (Or.inl ⟨by rfl, ?_⟩) hS ?_
            rotate_left
            · intro W hW; obtain ⟨s0, s1⟩ := hW; first | (go_simp; done) | (go_simp; with_reducible rfl)
            try simp only [Act.put, List.setIfInBounds_toArray, List.set_cons_zero, List.set_cons_succ]
            refine held_take (i := 1) (d := 54) (oi := _) (v := ?_) rfl rfl (by kernel_rfl) (by kernel_rfl) (by kernel_rfl) (fun _ _ _ h => h) (Or.inl ⟨by rfl, ?_⟩) hS ?_
            rotate_left
            · intro W hW; obtain ⟨s0, s1⟩ := hW; first | (go_simp; done) | (go_simp; with_reducible rfl)
            try simp only [Act.put, List.setIfInBounds_toArray, List.set_cons_zero, List.set_cons_succ]
            refine held_take (i := 2) (d := 55) (oi := _) (v := ?_) rfl rfl (by kernel_rfl) (by kernel_rfl) (by kernel_rfl) (fun _ _ _ h => h) (Or.inl ⟨by rfl, ?_⟩) hS ?_
            rotate_left
            · intro W hW; obtain ⟨s0, s1⟩ := hW; first | (go_simp; done) | (go_simp; with_reducible rfl)
            try simp only [Act.put, List.setIfInBounds_toArray, List.set_cons_zero, List.set_cons_succ]
            refine held_take (i := 3) (d := 56) (oi := _) (v := ?_) rfl rfl (by kernel_rfl) (by kernel_rfl) (by kernel_rfl) (fun _ _ _ h => h) (Or.inl ⟨by rfl, ?_⟩) hS ?_
            rotate_left
            · intro W hW; obtain ⟨s0, s1⟩ := hW; first | (go_simp; done) | (go_simp; with_reducible rfl)
            try simp only [Act.put, List.setIfInBounds_toArray, List.set_cons_zero, List.set_cons_succ]
            refine held_take (i := 4) (d := 57) (oi := _) (v := ?_) rfl rfl (by kernel_rfl) (by kernel_rfl) (by kernel_rfl) (fun _ _ _ h => h) (Or.inl ⟨by rfl, ?_⟩) hS ?_
            rotate_left
            · intro W hW; obtain ⟨s0, s1⟩ := hW; first | (go_simp; done) | (go_simp; with_reducible rfl)
            try simp only [Act.put, List.setIfInBounds_toArray, List.set_cons_zero, List.set_cons_succ]
            refine held_take (i := 5) (d := 58) (oi := _) (v := ?_) rfl rfl (by kernel_rfl) (by kernel_rfl) (by kernel_rfl) (fun _ _ _ h => h) (Or.inl ⟨by rfl, ?_⟩) hS ?_
            rotate_left
            · intro W hW; obtain ⟨s0, s1⟩ := hW; first | (go_simp; done) | (go_simp; with_reducible rfl)
            try simp only [Act.put, List.setIfInBounds_toArray, List.set_cons_zero, List.set_cons_succ]
            refine held_take (i := 6) (d := 59) (oi := _) (v := ?_) rfl rfl (by kernel_rfl) (by kernel_rfl) (by kernel_rfl) (fun _ _ _ h => h) (Or.inl ⟨by rfl, ?_⟩) hS ?_
            rotate_left
            · intro W hW; obtain ⟨s0, s1⟩ := hW; first | (go_simp; done) | (go_simp; with_reducible rfl)
            try simp only [Act.put, List.setIfInBounds_toArray, List.set_cons_zero, List.set_cons_succ]
            refine held_take (i := 7) (d := 60) (oi := _) (v := ?_) rfl rfl (by kernel_rfl) (by kernel_rfl) (by kernel_rfl) (fun _ _ _ h => h) (Or.inl ⟨by rfl, ?_⟩) hS ?_
            rotate_left
            · intro W hW; obtain ⟨s0, s1⟩ := hW; first | (go_simp; done) | (go_simp; with_reducible rfl)
            try simp only [Act.put, List.setIfInBounds_toArray, List.set_cons_zero, List.set_cons_succ]
            refine held_take (i := 8) (d := 61) (oi := _) (v := ?_) rfl rfl (by kernel_rfl) (by kernel_rfl) (by kernel_rfl) (fun _ _ _ h => h) (Or.inl ⟨by rfl, ?_⟩) hS ?_
            rotate_left
            · intro W hW; obtain ⟨s0, s1⟩ := hW; first | (go_simp; done) | (go_simp; with_reducible rfl)
            try simp only [Act.put, List.setIfInBounds_toArray, List.set_cons_zero, List.set_cons_succ]
            refine held_take (i := 9) (d := 62) (oi := _) (v := ?_) rfl rfl (by kernel_rfl) (by kernel_rfl) (by kernel_rfl) (fun _ _ _ h => h) (Or.inl ⟨by rfl, ?_⟩) hS ?_
            rotate_left
            · intro W hW; obtain ⟨s0, s1⟩ := hW; first | (go_simp; done) | (go_simp; with_reducible rfl)
            try simp only [Act.put, List.setIfInBounds_toArray, List.set_cons_zero, List.set_cons_succ]
            refine held_take (i := 10) (d := 63) (oi := _) (v := ?_) rfl rfl (by kernel_rfl) (by kernel_rfl) (by kernel_rfl) (fun _ _ _ h => h) (Or.inl ⟨by rfl, ?_⟩) hS ?_
            rotate_left
            · intro W hW; obtain ⟨s0, s1⟩ := hW; first | (go_simp; done) | (go_simp; with_reducible rfl)
            try simp only [Act.put, List.setIfInBounds_toArray, List.set_cons_zero, List.set_cons_succ]
            refine held_take (i := 11) (d := 64) (oi := _) (v := ?_) rfl rfl (by kernel_rfl) (by kernel_rfl) (by kernel_rfl) (fun _ _ _ h => h) (Or.inl ⟨by rfl, ?_⟩) hS ?_
            rotate_left
            · intro W hW; obtain ⟨s0, s1⟩ := hW; first | (go_simp; done) | (go_simp; with_reducible rfl)
            try simp only [Act.put, List.setIfInBounds_toArray, List.set_cons_zero, List.set_cons_succ]
            refine held_take (i := 12) (d := 65) (oi := _) (v := ?_) rfl rfl (by kernel_rfl) (by kernel_rfl) (by kernel_rfl) (fun _ _ _ h => h) (Or.inl ⟨by rfl, ?_⟩) hS ?_
            rotate_left
            · intro W hW; obtain ⟨s0, s1⟩ := hW; first | (go_simp; done) | (go_simp; with_reducible rfl)
            try simp only [Act.put, List.setIfInBounds_toArray, List.set_cons_zero, List.set_cons_succ]
            refine held_take (i := 13) (d := 66) (oi := _) (v := ?_) rfl rfl (by kernel_rfl) (by kernel_rfl) (by kernel_rfl) (fun _ _ _ h => h) (Or.inl ⟨by rfl, ?_⟩) hS ?_
            rotate_left
            · intro W hW; obtain ⟨s0, s1⟩ := hW; first | (go_simp; done) | (go_simp; with_reducible rfl)
            try simp only [Act.put, List.setIfInBounds_toArray, List.set_cons_zero, List.set_cons_succ]
            refine held_take (i := 14) (d := 67) (oi := _) (v := ?_) rfl rfl (by kernel_rfl) (by kernel_rfl) (by kernel_rfl) (fun _ _ _ h => h) (Or.inl ⟨by rfl, ?_⟩) hS ?_
            rotate_left
            · intro W hW; obtain ⟨s0, s1⟩ := hW; first | (go_simp; done) | (go_simp; with_reducible rfl)
            try simp only [Act.put, List.setIfInBounds_toArray, List.set_cons_zero, List.set_cons_succ]
            refine held_take (i := 15) (d := 68) (oi := _) (v := ?_) rfl rfl (by kernel_rfl) (by kernel_rfl) (by kernel_rfl) (fun _ _ _ h => h) (Or.inl ⟨by rfl, ?_⟩) hS ?_
            rotate_left
            · intro W hW; obtain ⟨s0, s1⟩ := hW; first | (go_simp; done) | (go_simp; with_reducible rfl)
            try simp only [Act.put, List.setIfInBounds_toArray, List.set_cons_zero, List.set_cons_succ]
            refine held_take (i := 16) (d := 69) (oi := _) (v := ?_) rfl rfl (by kernel_rfl) (by kernel_rfl) (by kernel_rfl) (fun _ _ _ h => h) (Or.inl ⟨by rfl, ?_⟩) hS ?_
            rotate_left
            · intro W hW; obtain ⟨s0, s1⟩ := hW; first | (go_simp; done) | (go_simp; with_reducible rfl)
            try simp only [Act.put, List.setIfInBounds_toArray, List.set_cons_zero, List.set_cons_succ]
            refine held_take (i := 18) (d := 71) (oi := _) (v := ?_) rfl rfl (by kernel_rfl) (by kernel_rfl) (by kernel_rfl) (fun _ _ _ h => h) (Or.inl ⟨by rfl, ?_⟩) hS ?_
            rotate_left
            · intro W hW; obtain ⟨s0, s1⟩ := hW; first | (go_simp; done) | (go_simp; with_reducible rfl)
            try simp only [Act.put, List.setIfInBounds_toArray, List.set_cons_zero, List.set_cons_succ]
            refine held_take (i := 19) (d := 72) (oi := _) (v := ?_) rfl rfl (by kernel_rfl) (by kernel_rfl) (by kernel_rfl) (fun _ _ _ h => h) (Or.inl ⟨by rfl, ?_⟩) hS ?_
            rotate_left
            · intro W hW; obtain ⟨s0, s1⟩ := hW; first | (go_simp; done) | (go_simp; with_reducible rfl)
            try simp only [Act.put, List.setIfInBounds_toArray, List.set_cons_zero, List.set_cons_succ]
            refine wpAnyH_ready (rs := [17]) (by kernel_rfl) (by simp) (AllReadyH.cons rfl (fun K hK => ?_) AllReadyH.nil)
            go_simp
            go_at_call 38
            refine (HCC.out hy0 _ HX4.out).mono ?_
            rintro e w5 ⟨rfl, e5⟩
            have E5 := hide (Ext.trans HX4.out e5)
            refine hK.out _ _ ⟨e5.cell g0, e5.cell g1⟩ (fun hS => ?_)
            clear e5
            clear hK K
            try simp only [Act.put, List.setIfInBounds_toArray, List.set_cons_zero, List.set_cons_succ]
            refine held_take (i := 20) (d := 73) (oi := _) (v := ?_) rfl rfl (by kernel_rfl) (by kernel_rfl) (by kernel_rfl) (fun _ _ _ h => h) (Or.inl ⟨by rfl, ?_⟩) hS ?_
            rotate_left
            · intro W hW; obtain ⟨s0, s1⟩ := hW; first | (go_simp; done) | (go_simp; with_reducible rfl)
            try simp only [Act.put, List.setIfInBounds_toArray, List.set_cons_zero, List.set_cons_succ]
            refine held_take (i := 21) (d := 74) (oi := _) (v := ?_) rfl rfl (by kernel_rfl) (by kernel_rfl) (by kernel_rfl) (fun _ _ _ h => h) (Or.inl ⟨by rfl, ?_⟩) hS ?_
            rotate_left
            · intro W hW; obtain ⟨s0, s1⟩ := hW; first | (go_simp; done) | (go_simp; with_reducible rfl)
            try simp only [Act.put, List.setIfInBounds_toArray, List.set_cons_zero, List.set_cons_succ]
            refine wpAnyH_done (by kernel_rfl) ?_ _
            go_wp2_with fail
            go_ret2
            exact ⟨ret_pairK (by rw [HV1.out.2, HJ2.out HKF.out]; rfl) HV1.out.1.symm, Ext.trans HX2.out E5.out⟩
          have d0 : decide (0 ≤ y) = true := by simp; omega
          have d1 : decide (y + gw ≤ u) = true := by simp; omega
          have d2 : decide (cy < gb) = false := by simp; omega
          have HKF : Hid (kp = false) := hide (by rw [HKP.out]; exact decide_eq_false (by omega))
          go_upto_region 15 with (fail)
          refine wp_region_held_drew (S := fun w' => w'.cell? ⟨w.heap.size, 0, none⟩ = some (.int .i64 gw) ∧ w'.cell? ⟨w.heap.size, 1, none⟩ = some (.int .i64 gb)) (by kernel_rfl) (⟨g0, g1⟩) (fun hS => ?_)
          refine held_take (i := 0) (d := 53) (oi := _) (v := ?_) rfl rfl (by kernel_rfl) (by kernel_rfl) (by kernel_rfl) (fun _ _ _ h => h) (Or.inl ⟨by rfl, ?_⟩) hS ?_
          rotate_left
          · intro W hW; obtain ⟨s0, s1⟩ := hW; first | (go_simp; done) | (go_simp; with_reducible rfl)
          try simp only [Act.put, List.setIfInBounds_toArray, List.set_cons_zero, List.set_cons_succ]
          refine held_take (i := 1) (d := 54) (oi := _) (v := ?_) rfl rfl (by kernel_rfl) (by kernel_rfl) (by kernel_rfl) (fun _ _ _ h => h) (Or.inl ⟨by rfl, ?_⟩) hS ?_
          rotate_left
          · intro W hW; obtain ⟨s0, s1⟩ := hW; first | (go_simp; done) | (go_simp; with_reducible rfl)
          try simp only [Act.put, List.setIfInBounds_toArray, List.set_cons_zero, List.set_cons_succ]
          refine held_take (i := 2) (d := 55) (oi := _) (v := ?_) rfl rfl (by kernel_rfl) (by kernel_rfl) (by kernel_rfl) (fun _ _ _ h => h) (Or.inl ⟨by rfl, ?_⟩) hS ?_
          rotate_left
          · intro W hW; obtain ⟨s0, s1⟩ := hW; first | (go_simp; done) | (go_simp; with_reducible rfl)
          try simp only [Act.put, List.setIfInBounds_toArray, List.set_cons_zero, List.set_cons_succ]
          refine held_take (i := 3) (d := 56) (oi := _) (v := ?_) rfl rfl (by kernel_rfl) (by kernel_rfl) (by kernel_rfl) (fun _ _ _ h => h) (Or.inl ⟨by rfl, ?_⟩) hS ?_
          rotate_left
          · intro W hW; obtain ⟨s0, s1⟩ := hW; first | (go_simp; done) | (go_simp; with_reducible rfl)
          try simp only [Act.put, List.setIfInBounds_toArray, List.set_cons_zero, List.set_cons_succ]
          refine held_take (i := 4) (d := 57) (oi := _) (v := ?_) rfl rfl (by kernel_rfl) (by kernel_rfl) (by kernel_rfl) (fun _ _ _ h => h) (Or.inl ⟨by rfl, ?_⟩) hS ?_
          rotate_left
          · intro W hW; obtain ⟨s0, s1⟩ := hW; first | (go_simp; done) | (go_simp; with_reducible rfl)
          try simp only [Act.put, List.setIfInBounds_toArray, List.set_cons_zero, List.set_cons_succ]
          refine held_take (i := 5) (d := 58) (oi := _) (v := ?_) rfl rfl (by kernel_rfl) (by kernel_rfl) (by kernel_rfl) (fun _ _ _ h => h) (Or.inl ⟨by rfl, ?_⟩) hS ?_
          rotate_left
          · intro W hW; obtain ⟨s0, s1⟩ := hW; first | (go_simp; done) | (go_simp; with_reducible rfl)
          try simp only [Act.put, List.setIfInBounds_toArray, List.set_cons_zero, List.set_cons_succ]
          refine held_take (i := 6) (d := 59) (oi := _) (v := ?_) rfl rfl (by kernel_rfl) (by kernel_rfl) (by kernel_rfl) (fun _ _ _ h => h) (Or.inl ⟨by rfl, ?_⟩) hS ?_
          rotate_left
          · intro W hW; obtain ⟨s0, s1⟩ := hW; first | (go_simp; done) | (go_simp; with_reducible rfl)
          try simp only [Act.put, List.setIfInBounds_toArray, List.set_cons_zero, List.set_cons_succ]
          refine held_take (i := 7) (d := 60) (oi := _) (v := ?_) rfl rfl (by kernel_rfl) (by kernel_rfl) (by kernel_rfl) (fun _ _ _ h => h) (Or.inl ⟨by rfl, ?_⟩) hS ?_
          rotate_left
          · intro W hW; obtain ⟨s0, s1⟩ := hW; first | (go_simp; done) | (go_simp; with_reducible rfl)
          try simp only [Act.put, List.setIfInBounds_toArray, List.set_cons_zero, List.set_cons_succ]
          refine held_take (i := 8) (d := 61) (oi := _) (v := ?_) rfl rfl (by kernel_rfl) (by kernel_rfl) (by kernel_rfl) (fun _ _ _ h => h) (Or.inl ⟨by rfl, ?_⟩) hS ?_
          rotate_left
          · intro W hW; obtain ⟨s0, s1⟩ := hW; first | (go_simp; done) | (go_simp; with_reducible rfl)
          try simp only [Act.put, List.setIfInBounds_toArray, List.set_cons_zero, List.set_cons_succ]
          refine held_take (i := 9) (d := 62) (oi := _) (v := ?_) rfl rfl (by kernel_rfl) (by kernel_rfl) (by kernel_rfl) (fun _ _ _ h => h) (Or.inl ⟨by rfl, ?_⟩) hS ?_
          rotate_left
          · intro W hW; obtain ⟨s0, s1⟩ := hW; first | (go_simp; done) | (go_simp; with_reducible rfl)
          try simp only [Act.put, List.setIfInBounds_toArray, List.set_cons_zero, List.set_cons_succ]
          refine held_take (i := 10) (d := 63) (oi := _) (v := ?_) rfl rfl (by kernel_rfl) (by kernel_rfl) (by kernel_rfl) (fun _ _ _ h => h) (Or.inl ⟨by rfl, ?_⟩) hS ?_
          rotate_left
          · intro W hW; obtain ⟨s0, s1⟩ := hW; first | (go_simp; done) | (go_simp; with_reducible rfl)
          try simp only [Act.put, List.setIfInBounds_toArray, List.set_cons_zero, List.set_cons_succ]
          refine held_take (i := 11) (d := 64) (oi := _) (v := ?_) rfl rfl (by kernel_rfl) (by kernel_rfl) (by kernel_rfl) (fun _ _ _ h => h) (Or.inl ⟨by rfl, ?_⟩) hS ?_
          rotate_left
          · intro W hW; obtain ⟨s0, s1⟩ := hW; first | (go_simp; done) | (go_simp; with_reducible rfl)
          try simp only [Act.put, List.setIfInBounds_toArray, List.set_cons_zero, List.set_cons_succ]
          refine held_take (i := 12) (d := 65) (oi := _) (v := ?_) rfl rfl (by kernel_rfl) (by kernel_rfl) (by kernel_rfl) (fun _ _ _ h => h) (Or.inl ⟨by rfl, ?_⟩) hS ?_
          rotate_left
          · intro W hW; obtain ⟨s0, s1⟩ := hW; first | (go_simp; done) | (go_simp; with_reducible rfl)
          try simp only [Act.put, List.setIfInBounds_toArray, List.set_cons_zero, List.set_cons_succ]
          refine held_take (i := 13) (d := 66) (oi := _) (v := ?_) rfl rfl (by kernel_rfl) (by kernel_rfl) (by kernel_rfl) (fun _ _ _ h => h) (Or.inl ⟨by rfl, ?_⟩) hS ?_
          rotate_left
          · intro W hW; obtain ⟨s0, s1⟩ := hW; first | (go_simp; done) | (go_simp; with_reducible rfl)
          try simp only [Act.put, List.setIfInBounds_toArray, List.set_cons_zero, List.set_cons_succ]
          refine held_take (i := 14) (d := 67) (oi := _) (v := ?_) rfl rfl (by kernel_rfl) (by kernel_rfl) (by kernel_rfl) (fun _ _ _ h => h) (Or.inl ⟨by rfl, ?_⟩) hS ?_
          rotate_left
          · intro W hW; obtain ⟨s0, s1⟩ := hW; first | (go_simp; done) | (go_simp; with_reducible rfl)
          try simp only [Act.put, List.setIfInBounds_toArray, List.set_cons_zero, List.set_cons_succ]
          refine held_take (i := 15) (d := 68) (oi := _) (v := ?_) rfl rfl (by kernel_rfl) (by kernel_rfl) (by kernel_rfl) (fun _ _ _ h => h) (Or.inl ⟨by rfl, ?_⟩) hS ?_
          rotate_left
          · intro W hW; obtain ⟨s0, s1⟩ := hW; first | (go_simp; done) | (go_simp; with_reducible rfl)
          try simp only [Act.put, List.setIfInBounds_toArray, List.set_cons_zero, List.set_cons_succ]
          refine held_take (i := 16) (d := 69) (oi := _) (v := ?_) rfl rfl (by kernel_rfl) (by kernel_rfl) (by kernel_rfl) (fun _ _ _ h => h) (Or.inl ⟨by rfl, ?_⟩) hS ?_
          rotate_left
          · intro W hW; obtain ⟨s0, s1⟩ := hW; first | (go_simp; done) | (go_simp; with_reducible rfl)
          try simp only [Act.put, List.setIfInBounds_toArray, List.set_cons_zero, List.set_cons_succ]
          refine held_take (i := 18) (d := 71) (oi := _) (v := ?_) rfl rfl (by kernel_rfl) (by kernel_rfl) (by kernel_rfl) (fun _ _ _ h => h) (Or.inl ⟨by rfl, ?_⟩) hS ?_
          rotate_left
          · intro W hW; obtain ⟨s0, s1⟩ := hW; first | (go_simp; done) | (go_simp; with_reducible rfl)
          try simp only [Act.put, List.setIfInBounds_toArray, List.set_cons_zero, List.set_cons_succ]
          refine held_take (i := 19) (d := 72) (oi := _) (v := ?_) rfl rfl (by kernel_rfl) (by kernel_rfl) (by kernel_rfl) (fun _ _ _ h => h) (Or.inl ⟨by rfl, ?_⟩) hS ?_
          rotate_left
          · intro W hW; obtain ⟨s0, s1⟩ := hW; first | (go_simp; done) | (go_simp; with_reducible rfl)
          try simp only [Act.put, List.setIfInBounds_toArray, List.set_cons_zero, List.set_cons_succ]
          refine wpAnyH_ready (rs := [17]) (by kernel_rfl) (by simp) (AllReadyH.cons rfl (fun K hK => ?_) AllReadyH.nil)
          go_simp
          go_at_call 38
          refine (HCC.out hy0 _ HX4.out).mono ?_
          rintro e w5 ⟨rfl, e5⟩
          have E5 := hide (Ext.trans HX4.out e5)
          refine hK.out _ _ ⟨e5.cell g0, e5.cell g1⟩ (fun hS => ?_)
          clear e5
          clear hK K
          try simp only [Act.put, List.setIfInBounds_toArray, List.set_cons_zero, List.set_cons_succ]
          refine held_take (i := 20) (d := 73) (oi := _) (v := ?_) rfl rfl (by kernel_rfl) (by kernel_rfl) (by kernel_rfl) (fun _ _ _ h => h) (Or.inl ⟨by rfl, ?_⟩) hS ?_
          rotate_left
          · intro W hW; obtain ⟨s0, s1⟩ := hW; first | (go_simp; done) | (go_simp; with_reducible rfl)
          try simp only [Act.put, List.setIfInBounds_toArray, List.set_cons_zero, List.set_cons_succ]
          refine held_take (i := 21) (d := 74) (oi := _) (v := ?_) rfl rfl (by kernel_rfl) (by kernel_rfl) (by kernel_rfl) (fun _ _ _ h => h) (Or.inl ⟨by rfl, ?_⟩) hS ?_
          rotate_left
          · intro W hW; obtain ⟨s0, s1⟩ := hW; first | (go_simp; done) | (go_simp; with_reducible rfl)
          try simp only [Act.put, List.setIfInBounds_toArray, List.set_cons_zero, List.set_cons_succ]
          refine wpAnyH_done (by kernel_rfl) ?_ _
          go_wp2_with fail
          first | (go_roundw; (case rel => exact ⟨j + 1, by omega, by go_num, hide (HJ1.out HKF.out), E5⟩); (case measure => simp [intOf]; omega)) | exact ⟨⟨j + 1, by omega, by go_num, hide (HJ1.out HKF.out), E5⟩, by simp [intOf]; omega⟩
        have hjn : j = n2 := by omega
        subst hjn
        have HAN : Hid ((kpL T gw u).any (kpN T gw gb u) = false) := hide (any_none (fun i hi => HJ.out i (by have := HN2.out; omega)))
        clear HJ hlt
        have h0 : ¬ (j : Int) < (j : Int) := by omega
        go_wp2_with fail
        go_ret2
        exact ⟨ret_pairK (by rw [HV1.out.2, HAN.out]; rfl) HV1.out.1.symm, Ext.trans HX2.out HX3.out⟩)
set_option linter.unusedVariables false in
set_option maxRecDepth 100000 in
set_option maxHeartbeats 16000000 in
theorem refKeeps_any {tA : Option Addr} {tn tc : Nat} {T : List (Int × Int)} {gw gb u : Int} {w : World} (hT : At w 2 e2 tA tn tc T) (hu64 : -9223372036854775808 ≤ u ∧ u ≤ 9223372036854775807) :
    Calls Try.prog 15 #[.slice tA tn tc, .agg #[.int .i64 gw, .int .i64 gb], .int .i64 u] w fun e w' => e = .returned (.tuple #[.bool (kepB T gw gb u), .int .i64 (kepF T gw gb u)]) ∧ Ext w w' := by
  obtain ⟨iK, hiK, hz0, hz1, hz2⟩ := info_parts Try.infoK
  have hlen := hT.len
  have hbt := hT.bound
  have HT := hide (fun (W : World) (hW : Ext w W) => refTrace_any (hT.ext hW))
  have HP := hide (fun (W : World) => checkPromise_any gw gb W)
  have HTT := hide hT
  have HL := hide hlen
  have hvF : kepF T gw gb u = if trcF T ≠ 0 then trcF T else if prmF gw gb ≠ 0 then prmF gw gb else if u < 0 ∨ 1000000000000 < u then 1 else 0 := rfl
  have hvB : kepB T gw gb u = if kepF T gw gb u = 0 then !((kpL T gw u).any (kpN T gw gb u)) else false := rfl
  have HOK := hide (fun (h : prmF gw gb = 0) => prmF_ok h)
  have HTZ : Hid (trcF T = 0 → T.length ≤ 500) := hide (fun h => (trcF_zero h).2.1)
  have HCA : Hid (trcF T = 0 → ∀ W, Ext w W → ∀ f t : Int, 0 ≤ f → f ≤ t → t ≤ 2000000000000 → Calls Try.prog 42 #[.slice tA tn tc, .int .i64 f, .int .i64 t] W fun e w' => e = .returned (.int .i64 (camel T f t)) ∧ Ext W w') := hide (fun h W hW f t h1 h2 h3 => refCameIn_any (hT.ext hW) h h1 h2 h3)
  have HCB : Hid (trcF T = 0 → ∀ k, k < (kpL T gw u).length → 1 ≤ gw ∧ gw ≤ 1000000 → 0 ≤ u ∧ u ≤ 1000000000000 → -1000000 ≤ (kpL T gw u).getD k 0 ∧ (kpL T gw u).getD k 0 ≤ 1000000000000) := hide (fun h k hk h1 h2 => kp_mem h h1 h2 hk)
  generalize kepF T gw gb u = vF at *
  generalize kepB T gw gb u = vB at *
  generalize trcF T = q1 at *
  generalize prmF gw gb = q2 at *
  have HV := hide (And.intro hvF hvB)
  clear hT hlen hvF hvB
  have HX : Hid (Ext w (w.alloc (.cells #[.int .i64 gw, .int .i64 gb] 44))) := hide (Ext.alloc _ _)
  have HB := hide (Blk.new w 44 #[.int .i64 gw, .int .i64 gb])
  go_enter Try.func15, Try.ntmps15
  go_wp2_with fail
  refine (HT.out _ HX.out).mono ?_
  rintro e w1 ⟨rfl, e1⟩
  have X1 := hide (Ext.trans HX.out e1)
  have B1 := hide (HB.out.ext e1)
  clear e1 HB HX
  by_cases c1 : q1 = 0
  rotate_left
  · have i1 : (q1 != 0) = true := by simp [c1]
    have HVF : Hid (vF = q1 ∧ vB = false) := hide (by obtain ⟨h1, h2⟩ := HV.out; have h3 : vF = q1 := (by rw [h1, if_pos c1]); exact ⟨h3, by rw [h2, if_neg (by omega)]⟩)
    clear c1
    go_wp2_with fail
    go_ret2
    exact ⟨ret_pairK HVF.out.2.symm HVF.out.1.symm, X1.out⟩
  have i1 : (q1 != 0) = false := by simp [c1]
  have g0 := B1.out.cell 0
  have g1 := B1.out.cell 1
  have HC1 := hide c1
  clear c1
  go_wp2_with fail
  refine (HP.out _).mono ?_
  rintro e w2 ⟨rfl, e2⟩
  have X1 := hide (Ext.trans X1.out e2)
  have B1 := hide (B1.out.ext e2)
  have c1 := HC1.out
  clear e2 g0 g1 HC1 i1
  by_cases c2 : q2 = 0
  rotate_left
  · have i1 : (q2 != 0) = true := by simp [c2]
    have HVF : Hid (vF = q2 ∧ vB = false) := hide (by obtain ⟨h1, h2⟩ := HV.out; have h3 : vF = q2 := (by rw [h1, if_neg (by omega), if_pos c2]); exact ⟨h3, by rw [h2, if_neg (by omega)]⟩)
    clear c1 c2
    go_wp2_with fail
    go_ret2
    exact ⟨ret_pairK HVF.out.2.symm HVF.out.1.symm, X1.out⟩
  have i1 : (q2 != 0) = false := by simp [c2]
  generalize hW1 : w2 = W1 at *
  clear hW1
  obtain ⟨⟨hg1, hg2⟩, hg3, hg4⟩ := HOK.out c2
  have hv1 : vF = if u < 0 ∨ 1000000000000 < u then 1 else 0 := by rw [HV.out.1, if_neg (by omega), if_neg (by omega)]
  have HTZ1 := HTZ.out c1
  have HCA1 := hide (HCA.out c1)
  have HCB1 := hide (HCB.out c1)
  clear HTZ HCA HCB HOK c1 c2
  by_cases hr : u < 0 ∨ 1000000000000 < u
  · have HVF : Hid (vF = 1 ∧ vB = false) := hide (by rw [if_pos hr] at hv1; exact ⟨hv1, by rw [HV.out.2, if_neg (by omega)]⟩)
    clear hv1
    go_wp2_with (first | ((go_at_call 41; with_reducible refine (within_yes ?_ _).mono ?_); (focus omega); rintro e w' ⟨rfl, rfl⟩) | ((go_at_call 41; with_reducible refine (within_no ?_ _).mono ?_); (focus omega); rintro e w' ⟨rfl, rfl⟩))
    go_ret2
    exact ⟨ret_pairK HVF.out.2.symm HVF.out.1.symm, X1.out⟩
  have HV1 : Hid (vF = 0 ∧ vB = !((kpL T gw u).any (kpN T gw gb u))) := hide (by rw [if_neg hr] at hv1; exact ⟨hv1, by rw [HV.out.2, if_pos hv1]⟩)
  have hu0 : 0 ≤ u := by omega
  have hu1 : u ≤ 1000000000000 := by omega
  clear hv1 HV hr hu64
  have g0 := B1.out.cell 0
  have g1 := B1.out.cell 1
  have wu : IntKind.i64.wrap (u - gw) = u - gw := by rw [IntKind.wrap_i64]; omega
  go_wp2_with (first | ((go_at_call 41; with_reducible refine (within_yes ?_ _).mono ?_); (focus omega); rintro e w' ⟨rfl, rfl⟩) | ((go_at_call 41; with_reducible refine (within_no ?_ _).mono ?_); (focus omega); rintro e w' ⟨rfl, rfl⟩))
  go_loopw [11, 37] (fun rb ri wr => ∃ k : Nat, k ≤ tn ∧ ri = .int .i64 k ∧ Hid (Own wr W1.heap.size 3 1 e64 rb (kpL (T.take k) gw u)) ∧ Hid (Ext W1 wr)) (fun _ ri _ => tn - (intOf ri).toNat)
  case atStart => exact ⟨0, by omega, rfl, hide (by have := Own.new2 W1 0 (u - gw) 3 (Nat.le_refl _); simpa [kpL] using this), hide (Ext.alloc _ _)⟩
  case round =>
    obtain ⟨k, hk, rfl, HO, HX1⟩ := hrel
    by_cases hlt : k < tn
    · obtain ⟨b, off, hA, _⟩ := HTT.out.addr (by omega)
      subst hA
      obtain ⟨a1, a2⟩ := (HTT.out.ext (Ext.trans X1.out HX1.out)).pair hlt
      have hTk := kpL_snoc (gw := gw) (u := u) (show k < T.length by have := HL.out; omega)
      have HTK := hide hTk
      have hbd := HCB1.out (2 + 2 * k) (by rw [kpL_len]; have := HL.out; omega) ⟨hg1, hg2⟩ ⟨hu0, hu1⟩
      have hbd2 : (kpL T gw u).getD (2 + 2 * k) 0 = (T.getD k (0, 0)).1 := kpL_get (by have := HL.out; omega)
      rw [hbd2] at hbd
      clear hTk hbd2
      have hln : (kpL (T.take k) gw u).length = 2 + 2 * k := by rw [kpL_len, List.length_take]; have := HL.out; omega
      have HLN := hide hln
      clear hln
      generalize (T.getD k (0, 0)).1 = xk at *
      generalize (T.getD k (0, 0)).2 = yk at *
      obtain ⟨hb1, hb2⟩ := hbd
      have wx : IntKind.i64.wrap (xk - gw) = xk - gw := by rw [IntKind.wrap_i64]; omega
      have g0' : wr.cell? ⟨w.heap.size, 0, none⟩ = some (.int .i64 gw) := HX1.out.cell g0
      have g0'' : (wr.alloc (.cells #[.int .i64 xk, .int .i64 yk] 69)).cell? ⟨w.heap.size, 0, none⟩ = some (.int .i64 gw) := (Ext.alloc _ _).cell g0'
      have N9 : At ((wr.alloc (.cells #[.int .i64 xk, .int .i64 yk] 69)).alloc (.cells #[.int .i64 xk, .int .i64 (xk - gw)] 3)) 1 e64 (some ⟨wr.heap.size + 1, 0, none⟩) 2 2 [xk, xk - gw] := by have h9 := At.new2 (wr.alloc (.cells #[.int .i64 xk, .int .i64 yk] 69)) xk (xk - gw) 3; rw [World.size_alloc] at h9; exact h9
      have OO := hide (HO.out.ext (Ext.trans (Ext.alloc _ (.cells #[.int .i64 xk, .int .i64 yk] 69)) (Ext.alloc _ (.cells #[.int .i64 xk, .int .i64 (xk - gw)] 3))))
      go_wp2_with (at_builtin; go_loud (refine wpList_append_at _ rfl (.tmp 41) (.tmp 49) 22 rfl W1.heap.size 3 iK _ 8 Try.underlying22 hiK hz0 hz1 hz2 rfl (by omega) len_e64 one_e64 _ (kpL (T.take k) gw u) rfl OO.out (some ⟨wr.heap.size + 1, 0, none⟩) 2 2 [xk, xk - gw] rfl N9 ?b1 ?b2 ?b3 ?_))
      case b1 => have := HLN.out; have := HL.out; unfold maxLen; simp; omega
      case b2 => have := HLN.out; have := HL.out; simp; omega
      case b3 => have := HX1.out.size; simp only [World.size_alloc]; omega
      intro rb' w9 o9 g9 _ hob
      have O9 : Hid (Own w9 W1.heap.size 3 1 e64 rb' (kpL (T.take (k + 1)) gw u)) := hide (by rw [HTK.out]; exact o9)
      have X9 : Hid (Ext W1 w9) := hide (Own.below OO.out (Ext.trans HX1.out (Ext.trans (Ext.alloc _ _) (Ext.alloc _ _))) g9 (Nat.le_refl _))
      clear o9 g9 hob OO HO
      go_wp2_with fail
      first | (go_roundw; (case rel => exact ⟨k + 1, by omega, by go_num, O9, X9⟩); (case measure => simp [intOf]; omega)) | exact ⟨⟨k + 1, by omega, by go_num, O9, X9⟩, by simp [intOf]; omega⟩
    have hkn : k = tn := by omega
    subst hkn
    have ho := HO.out
    rw [List.take_of_length_le (by have := HL.out; omega)] at ho
    obtain ⟨rA, rc, hrv, ra⟩ := ho.at_ len_e64
    subst hrv
    have RA := hide ra
    have hKL : (kpL T gw u).length ≤ 1002 := by rw [kpL_len]; omega
    have HX2 := hide (Ext.trans X1.out HX1.out)
    have B2 := hide (B1.out.ext HX1.out)
    obtain ⟨n2, hn2⟩ : ∃ n2, n2 = (kpL T gw u).length := ⟨_, rfl⟩
    rw [← hn2] at RA
    have HN2 := hide hn2
    have hn22 : n2 ≤ 1002 := by omega
    have h0 : ¬ (k : Int) < (k : Int) := by omega
    clear ho ra HO hn2 hKL hlt HX1 B1 X1 g0 g1
    rw [← HN2.out]
    generalize hwo : wr = wo at *
    clear hwo
    go_wp2_with fail
    go_loopw [54] (fun ri wr => ∃ j : Nat, j ≤ n2 ∧ ri = .int .i64 j ∧ Hid (∀ i, i < j → kpN T gw gb u ((kpL T gw u).getD i 0) = false) ∧ Hid (Ext wo wr)) (fun ri _ => n2 - (intOf ri).toNat)
    case atStart => exact ⟨0, by omega, rfl, hide (fun i hi => absurd hi (by omega)), hide (Ext.refl _)⟩
    case round =>
      obtain ⟨j, hj, rfl, HJ, HX3⟩ := hrel
      by_cases hlt : j < n2
      · obtain ⟨b2, off2, hA, _⟩ := RA.out.addr (by omega)
        subst hA
        have a1 := (RA.out.ext HX3.out).num hlt
        obtain ⟨hb1, hb2⟩ := HCB1.out j (by have := HN2.out; omega) ⟨hg1, hg2⟩ ⟨hu0, hu1⟩
        have hkp : kpN T gw gb u ((kpL T gw u).getD j 0) = decide (0 ≤ (kpL T gw u).getD j 0 ∧ (kpL T gw u).getD j 0 + gw ≤ u ∧ camel T ((kpL T gw u).getD j 0) ((kpL T gw u).getD j 0 + gw) < gb) := rfl
        have HJ1 : Hid (kpN T gw gb u ((kpL T gw u).getD j 0) = false → ∀ i, i < j + 1 → kpN T gw gb u ((kpL T gw u).getD i 0) = false) := hide (fun h i hi => (Nat.lt_or_ge i j).elim (HJ.out i) (fun h1 => by rw [show i = j by omega]; exact h))
        have HJ2 : Hid (kpN T gw gb u ((kpL T gw u).getD j 0) = true → (kpL T gw u).any (kpN T gw gb u) = true) := hide (fun h => any_get (by have := HN2.out; omega) h)
        generalize kpN T gw gb u ((kpL T gw u).getD j 0) = kp at *
        generalize (kpL T gw u).getD j 0 = y at *
        have HCC : Hid (0 ≤ y → ∀ W, Ext wo W → Calls Try.prog 42 #[.slice tA k tc, .int .i64 y, .int .i64 (y + gw)] W fun e w' => e = .returned (.int .i64 (camel T y (y + gw))) ∧ Ext W w') := hide (fun h W hW => HCA1.out W (Ext.trans HX2.out hW) y (y + gw) h (by omega) (by omega))
        generalize camel T y (y + gw) = cy at *
        have HKP := hide hkp
        have wy : IntKind.i64.wrap (y + gw) = y + gw := by rw [IntKind.wrap_i64]; omega
        have g0 : wr.cell? ⟨w.heap.size, 0, none⟩ = some (.int .i64 gw) := HX3.out.cell (B2.out.cell 0)
        have g1 : wr.cell? ⟨w.heap.size, 1, none⟩ = some (.int .i64 gb) := HX3.out.cell (B2.out.cell 1)
        have i0 : (j : Int) < (n2 : Int) := by omega
        have HX4 := hide (Ext.trans HX3.out (Ext.drew wr))
        clear hkp HJ
        rcases Int.lt_or_le y 0 with hy0 | hy0
        · clear HCC
          have hy0 : y < 0 := by omega
          have d0 : decide (0 ≤ y) = false := by simp; omega
          have HKF : Hid (kp = false) := hide (by rw [HKP.out]; exact decide_eq_false (by omega))
          have wl : IntKind.i64.wrap (u - gw) = u - gw := by rw [IntKind.wrap_i64]; omega
          go_upto_region 19 with (fail)
          refine wp_region_held_drew (S := fun w' => w'.cell? ⟨w.heap.size, 0, none⟩ = some (.int .i64 gw) ∧ w'.cell? ⟨w.heap.size, 1, none⟩ = some (.int .i64 gb)) (by kernel_rfl) (⟨g0, g1⟩) (fun hS => ?_)
          refine held_take (i := 0) (d := 58) (oi := _) (v := ?_) rfl rfl (by kernel_rfl) (by kernel_rfl) (by kernel_rfl) (fun _ _ _ h => h) (Or.inl ⟨by rfl, ?_⟩) hS ?_
          rotate_left
          · intro W hW; obtain ⟨s0, s1⟩ := hW; first | (go_simp; done) | (go_simp; with_reducible rfl)
          try simp only [Act.put, List.setIfInBounds_toArray, List.set_cons_zero, List.set_cons_succ]
          refine held_take (i := 1) (d := 59) (oi := _) (v := ?_) rfl rfl (by kernel_rfl) (by kernel_rfl) (by kernel_rfl) (fun _ _ _ h => h) (Or.inl ⟨by rfl, ?_⟩) hS ?_
          rotate_left
          · intro W hW; obtain ⟨s0, s1⟩ := hW; first | (go_simp; done) | (go_simp; with_reducible rfl)
          try simp only [Act.put, List.setIfInBounds_toArray, List.set_cons_zero, List.set_cons_succ]
          refine wpAnyH_ready (rs := [2]) (by kernel_rfl) (by simp) (AllReadyH.cons rfl (fun K hK => ?_) AllReadyH.nil)
          go_simp
          go_at_call 41
          refine (within_no (by omega) _).mono ?_
          rintro e w5 ⟨rfl, rfl⟩
          refine hK.out _ _ ⟨g0, g1⟩ (fun hS => ?_)
          clear hK K
          try simp only [Act.put, List.setIfInBounds_toArray, List.set_cons_zero, List.set_cons_succ]
          refine held_take (i := 3) (d := 61) (oi := _) (v := ?_) rfl rfl (by kernel_rfl) (by kernel_rfl) (by kernel_rfl) (fun _ _ _ h => h) (Or.inl ⟨by rfl, ?_⟩) hS ?_
          rotate_left
          · intro W hW; obtain ⟨s0, s1⟩ := hW; first | (go_simp; done) | (go_simp; with_reducible rfl)
          try simp only [Act.put, List.setIfInBounds_toArray, List.set_cons_zero, List.set_cons_succ]
          refine held_take (i := 4) (d := 62) (oi := _) (v := undef) rfl rfl (by kernel_rfl) (by kernel_rfl) (by kernel_rfl) (fun _ _ _ h => h) (Or.inr ⟨by rfl, rfl⟩) hS ?_
          try simp only [Act.put, List.setIfInBounds_toArray, List.set_cons_zero, List.set_cons_succ]
          refine held_take (i := 5) (d := 63) (oi := _) (v := undef) rfl rfl (by kernel_rfl) (by kernel_rfl) (by kernel_rfl) (fun _ _ _ h => h) (Or.inr ⟨by rfl, rfl⟩) hS ?_
          try simp only [Act.put, List.setIfInBounds_toArray, List.set_cons_zero, List.set_cons_succ]
          refine held_take (i := 6) (d := 64) (oi := _) (v := undef) rfl rfl (by kernel_rfl) (by kernel_rfl) (by kernel_rfl) (fun _ _ _ h => h) (Or.inr ⟨by rfl, rfl⟩) hS ?_
          try simp only [Act.put, List.setIfInBounds_toArray, List.set_cons_zero, List.set_cons_succ]
          refine held_take (i := 7) (d := 65) (oi := _) (v := undef) rfl rfl (by kernel_rfl) (by kernel_rfl) (by kernel_rfl) (fun _ _ _ h => h) (Or.inr ⟨by rfl, rfl⟩) hS ?_
          try simp only [Act.put, List.setIfInBounds_toArray, List.set_cons_zero, List.set_cons_succ]
          refine held_take (i := 8) (d := 66) (oi := _) (v := undef) rfl rfl (by kernel_rfl) (by kernel_rfl) (by kernel_rfl) (fun _ _ _ h => h) (Or.inr ⟨by rfl, rfl⟩) hS ?_
          try simp only [Act.put, List.setIfInBounds_toArray, List.set_cons_zero, List.set_cons_succ]
          refine held_take (i := 9) (d := 67) (oi := _) (v := undef) rfl rfl (by kernel_rfl) (by kernel_rfl) (by kernel_rfl) (fun _ _ _ h => h) (Or.inr ⟨by rfl, rfl⟩) hS ?_
          try simp only [Act.put, List.setIfInBounds_toArray, List.set_cons_zero, List.set_cons_succ]
          refine held_take (i := 11) (d := 69) (oi := _) (v := undef) rfl rfl (by kernel_rfl) (by kernel_rfl) (by kernel_rfl) (fun _ _ _ h => h) (Or.inr ⟨by rfl, rfl⟩) hS ?_
          try simp only [Act.put, List.setIfInBounds_toArray, List.set_cons_zero, List.set_cons_succ]
          refine held_take (i := 12) (d := 70) (oi := _) (v := undef) rfl rfl (by kernel_rfl) (by kernel_rfl) (by kernel_rfl) (fun _ _ _ h => h) (Or.inr ⟨by rfl, rfl⟩) hS ?_
          try simp only [Act.put, List.setIfInBounds_toArray, List.set_cons_zero, List.set_cons_succ]
          refine held_take (i := 10) (d := 68) (oi := _) (v := undef) rfl rfl (by kernel_rfl) (by kernel_rfl) (by kernel_rfl) (fun _ _ _ h => h) (Or.inr ⟨by rfl, rfl⟩) hS ?_
          try simp only [Act.put, List.setIfInBounds_toArray, List.set_cons_zero, List.set_cons_succ]
          refine held_take (i := 13) (d := 71) (oi := _) (v := undef) rfl rfl (by kernel_rfl) (by kernel_rfl) (by kernel_rfl) (fun _ _ _ h => h) (Or.inr ⟨by rfl, rfl⟩) hS ?_
          try simp only [Act.put, List.setIfInBounds_toArray, List.set_cons_zero, List.set_cons_succ]
          refine held_take (i := 14) (d := 72) (oi := _) (v := ?_) rfl rfl (by kernel_rfl) (by kernel_rfl) (by kernel_rfl) (fun _ _ _ h => h) (Or.inl ⟨by rfl, ?_⟩) hS ?_
          rotate_left
          · intro W hW; obtain ⟨s0, s1⟩ := hW; first | (go_simp; done) | (go_simp; with_reducible rfl)
          try simp only [Act.put, List.setIfInBounds_toArray, List.set_cons_zero, List.set_cons_succ]
          refine wpAnyH_done (by kernel_rfl) ?_ _
          go_wp2_with fail
          first | (go_roundw; (case rel => exact ⟨j + 1, by omega, by go_num, hide (HJ1.out HKF.out), HX4⟩); (case measure => simp [intOf]; omega)) | exact ⟨⟨j + 1, by omega, by go_num, hide (HJ1.out HKF.out), HX4⟩, by simp [intOf]; omega⟩
        rcases Int.lt_or_le u (y + gw) with hy1 | hy1
        · clear HCC
          have d0 : decide (0 ≤ y) = true := by simp; omega
          have d1 : decide (y + gw ≤ u) = false := by simp; omega
          have HKF : Hid (kp = false) := hide (by rw [HKP.out]; exact decide_eq_false (by omega))
          have wl : IntKind.i64.wrap (u - gw) = u - gw := by rw [IntKind.wrap_i64]; omega
          go_upto_region 19 with (fail)
          refine wp_region_held_drew (S := fun w' => w'.cell? ⟨w.heap.size, 0, none⟩ = some (.int .i64 gw) ∧ w'.cell? ⟨w.heap.size, 1, none⟩ = some (.int .i64 gb)) (by kernel_rfl) (⟨g0, g1⟩) (fun hS => ?_)
          refine held_take (i := 0) (d := 58) (oi := _) (v := ?_) rfl rfl (by kernel_rfl) (by kernel_rfl) (by kernel_rfl) (fun _ _ _ h => h) (Or.inl ⟨by rfl, ?_⟩) hS ?_
          rotate_left
          · intro W hW; obtain ⟨s0, s1⟩ := hW; first | (go_simp; done) | (go_simp; with_reducible rfl)
          try simp only [Act.put, List.setIfInBounds_toArray, List.set_cons_zero, List.set_cons_succ]
          refine held_take (i := 1) (d := 59) (oi := _) (v := ?_) rfl rfl (by kernel_rfl) (by kernel_rfl) (by kernel_rfl) (fun _ _ _ h => h) (Or.inl ⟨by rfl, ?_⟩) hS ?_
          rotate_left
          · intro W hW; obtain ⟨s0, s1⟩ := hW; first | (go_simp; done) | (go_simp; with_reducible rfl)
          try simp only [Act.put, List.setIfInBounds_toArray, List.set_cons_zero, List.set_cons_succ]
          refine wpAnyH_ready (rs := [2]) (by kernel_rfl) (by simp) (AllReadyH.cons rfl (fun K hK => ?_) AllReadyH.nil)
          go_simp
          go_at_call 41
          refine (within_no (by omega) _).mono ?_
          rintro e w5 ⟨rfl, rfl⟩
          refine hK.out _ _ ⟨g0, g1⟩ (fun hS => ?_)
          clear hK K
          try simp only [Act.put, List.setIfInBounds_toArray, List.set_cons_zero, List.set_cons_succ]
          refine held_take (i := 3) (d := 61) (oi := _) (v := ?_) rfl rfl (by kernel_rfl) (by kernel_rfl) (by kernel_rfl) (fun _ _ _ h => h) (Or.inl ⟨by rfl, ?_⟩) hS ?_
          rotate_left
          · intro W hW; obtain ⟨s0, s1⟩ := hW; first | (go_simp; done) | (go_simp; with_reducible rfl)
          try simp only [Act.put, List.setIfInBounds_toArray, List.set_cons_zero, List.set_cons_succ]
          refine held_take (i := 4) (d := 62) (oi := _) (v := undef) rfl rfl (by kernel_rfl) (by kernel_rfl) (by kernel_rfl) (fun _ _ _ h => h) (Or.inr ⟨by rfl, rfl⟩) hS ?_
          try simp only [Act.put, List.setIfInBounds_toArray, List.set_cons_zero, List.set_cons_succ]
          refine held_take (i := 5) (d := 63) (oi := _) (v := undef) rfl rfl (by kernel_rfl) (by kernel_rfl) (by kernel_rfl) (fun _ _ _ h => h) (Or.inr ⟨by rfl, rfl⟩) hS ?_
          try simp only [Act.put, List.setIfInBounds_toArray, List.set_cons_zero, List.set_cons_succ]
          refine held_take (i := 6) (d := 64) (oi := _) (v := undef) rfl rfl (by kernel_rfl) (by kernel_rfl) (by kernel_rfl) (fun _ _ _ h => h) (Or.inr ⟨by rfl, rfl⟩) hS ?_
          try simp only [Act.put, List.setIfInBounds_toArray, List.set_cons_zero, List.set_cons_succ]
          refine held_take (i := 7) (d := 65) (oi := _) (v := undef) rfl rfl (by kernel_rfl) (by kernel_rfl) (by kernel_rfl) (fun _ _ _ h => h) (Or.inr ⟨by rfl, rfl⟩) hS ?_
          try simp only [Act.put, List.setIfInBounds_toArray, List.set_cons_zero, List.set_cons_succ]
          refine held_take (i := 8) (d := 66) (oi := _) (v := undef) rfl rfl (by kernel_rfl) (by kernel_rfl) (by kernel_rfl) (fun _ _ _ h => h) (Or.inr ⟨by rfl, rfl⟩) hS ?_
          try simp only [Act.put, List.setIfInBounds_toArray, List.set_cons_zero, List.set_cons_succ]
          refine held_take (i := 9) (d := 67) (oi := _) (v := undef) rfl rfl (by kernel_rfl) (by kernel_rfl) (by kernel_rfl) (fun _ _ _ h => h) (Or.inr ⟨by rfl, rfl⟩) hS ?_
          try simp only [Act.put, List.setIfInBounds_toArray, List.set_cons_zero, List.set_cons_succ]
          refine held_take (i := 11) (d := 69) (oi := _) (v := undef) rfl rfl (by kernel_rfl) (by kernel_rfl) (by kernel_rfl) (fun _ _ _ h => h) (Or.inr ⟨by rfl, rfl⟩) hS ?_
          try simp only [Act.put, List.setIfInBounds_toArray, List.set_cons_zero, List.set_cons_succ]
          refine held_take (i := 12) (d := 70) (oi := _) (v := undef) rfl rfl (by kernel_rfl) (by kernel_rfl) (by kernel_rfl) (fun _ _ _ h => h) (Or.inr ⟨by rfl, rfl⟩) hS ?_
          try simp only [Act.put, List.setIfInBounds_toArray, List.set_cons_zero, List.set_cons_succ]
          refine held_take (i := 10) (d := 68) (oi := _) (v := undef) rfl rfl (by kernel_rfl) (by kernel_rfl) (by kernel_rfl) (fun _ _ _ h => h) (Or.inr ⟨by rfl, rfl⟩) hS ?_
          try simp only [Act.put, List.setIfInBounds_toArray, List.set_cons_zero, List.set_cons_succ]
          refine held_take (i := 13) (d := 71) (oi := _) (v := undef) rfl rfl (by kernel_rfl) (by kernel_rfl) (by kernel_rfl) (fun _ _ _ h => h) (Or.inr ⟨by rfl, rfl⟩) hS ?_
          try simp only [Act.put, List.setIfInBounds_toArray, List.set_cons_zero, List.set_cons_succ]
          refine held_take (i := 14) (d := 72) (oi := _) (v := ?_) rfl rfl (by kernel_rfl) (by kernel_rfl) (by kernel_rfl) (fun _ _ _ h => h) (Or.inl ⟨by rfl, ?_⟩) hS ?_
          rotate_left
          · intro W hW; obtain ⟨s0, s1⟩ := hW; first | (go_simp; done) | (go_simp; with_reducible rfl)
          try simp only [Act.put, List.setIfInBounds_toArray, List.set_cons_zero, List.set_cons_succ]
          refine wpAnyH_done (by kernel_rfl) ?_ _
          go_wp2_with fail
          first | (go_roundw; (case rel => exact ⟨j + 1, by omega, by go_num, hide (HJ1.out HKF.out), HX4⟩); (case measure => simp [intOf]; omega)) | exact ⟨⟨j + 1, by omega, by go_num, hide (HJ1.out HKF.out), HX4⟩, by simp [intOf]; omega⟩
        rcases Int.lt_or_le cy gb with hy2 | hy2
        · skip
          have d0 : decide (0 ≤ y) = true := by simp; omega
          have d1 : decide (y + gw ≤ u) = true := by simp; omega
          have d2 : decide (cy < gb) = true := by simp; omega
          have HKF : Hid (kp = true) := hide (by rw [HKP.out]; exact decide_eq_true (by omega))
          have wl : IntKind.i64.wrap (u - gw) = u - gw := by rw [IntKind.wrap_i64]; omega
          go_upto_region 19 with (fail)
          refine wp_region_held_drew (S := fun w' => w'.cell? ⟨w.heap.size, 0, none⟩ = some (.int .i64 gw) ∧ w'.cell? ⟨w.heap.size, 1, none⟩ = some (.int .i64 gb)) (by kernel_rfl) (⟨g0, g1⟩) (fun hS => ?_)
          refine held_take (i := 0) (d := 58) (oi := _) (v := ?_) rfl rfl (by kernel_rfl) (by kernel_rfl) (by kernel_rfl) (fun _ _ _ h => h) (Or.inl ⟨by rfl, ?_⟩) hS ?_
          rotate_left
          · intro W hW; obtain ⟨s0, s1⟩ := hW; first | (go_simp; done) | (go_simp; with_reducible rfl)
          try simp only [Act.put, List.setIfInBounds_toArray, List.set_cons_zero, List.set_cons_succ]
          refine held_take (i := 1) (d := 59) (oi := _) (v := ?_) rfl rfl (by kernel_rfl) (by kernel_rfl) (by kernel_rfl) (fun _ _ _ h => h) (Or.inl ⟨by rfl, ?_⟩) hS ?_
          rotate_left
          · intro W hW; obtain ⟨s0, s1⟩ := hW; first | (go_simp; done) | (go_simp; with_reducible rfl)
          try simp only [Act.put, List.setIfInBounds_toArray, List.set_cons_zero, List.set_cons_succ]
          refine wpAnyH_ready (rs := [2]) (by kernel_rfl) (by simp) (AllReadyH.cons rfl (fun K hK => ?_) AllReadyH.nil)
          go_simp
          go_at_call 41
          refine (within_yes (by omega) _).mono ?_
          rintro e w5 ⟨rfl, rfl⟩
          refine hK.out _ _ ⟨g0, g1⟩ (fun hS => ?_)
          clear hK K
          try simp only [Act.put, List.setIfInBounds_toArray, List.set_cons_zero, List.set_cons_succ]
          refine held_take (i := 3) (d := 61) (oi := _) (v := ?_) rfl rfl (by kernel_rfl) (by kernel_rfl) (by kernel_rfl) (fun _ _ _ h => h) (Or.inl ⟨by rfl, ?_⟩) hS ?_
          rotate_left
          · intro W hW; obtain ⟨s0, s1⟩ := hW; first | (go_simp; done) | (go_simp; with_reducible rfl)
          try simp only [Act.put, List.setIfInBounds_toArray, List.set_cons_zero, List.set_cons_succ]
          refine held_take (i := 4) (d := 62) (oi := _) (v := ?_) rfl rfl (by kernel_rfl) (by kernel_rfl) (by kernel_rfl) (fun _ _ _ h => h) (Or.inl ⟨by rfl, ?_⟩) hS ?_
          rotate_left
          · intro W hW; obtain ⟨s0, s1⟩ := hW; first | (go_simp; done) | (go_simp; with_reducible rfl)
          try simp only [Act.put, List.setIfInBounds_toArray, List.set_cons_zero, List.set_cons_succ]
          refine held_take (i := 5) (d := 63) (oi := _) (v := ?_) rfl rfl (by kernel_rfl) (by kernel_rfl) (by kernel_rfl) (fun _ _ _ h => h) (Or.inl ⟨by rfl, ?_⟩) hS ?_
          rotate_left
          · intro W hW; obtain ⟨s0, s1⟩ := hW; first | (go_simp; done) | (go_simp; with_reducible rfl)
          try simp only [Act.put, List.setIfInBounds_toArray, List.set_cons_zero, List.set_cons_succ]
          refine held_take (i := 6) (d := 64) (oi := _) (v := ?_) rfl rfl (by kernel_rfl) (by kernel_rfl) (by kernel_rfl) (fun _ _ _ h => h) (Or.inl ⟨by rfl, ?_⟩) hS ?_
          rotate_left
          · intro W hW; obtain ⟨s0, s1⟩ := hW; first | (go_simp; done) | (go_simp; with_reducible rfl)
          try simp only [Act.put, List.setIfInBounds_toArray, List.set_cons_zero, List.set_cons_succ]
          refine held_take (i := 7) (d := 65) (oi := _) (v := ?_) rfl rfl (by kernel_rfl) (by kernel_rfl) (by kernel_rfl) (fun _ _ _ h => h) (Or.inl ⟨by rfl, ?_⟩) hS ?_
          rotate_left
          · intro W hW; obtain ⟨s0, s1⟩ := hW; first | (go_simp; done) | (go_simp; with_reducible rfl)
          try simp only [Act.put, List.setIfInBounds_toArray, List.set_cons_zero, List.set_cons_succ]
          refine held_take (i := 8) (d := 66) (oi := _) (v := ?_) rfl rfl (by kernel_rfl) (by kernel_rfl) (by kernel_rfl) (fun _ _ _ h => h) (Or.inl ⟨by rfl, ?_⟩) hS ?_
          rotate_left
          · intro W hW; obtain ⟨s0, s1⟩ := hW; first | (go_simp; done) | (go_simp; with_reducible rfl)
          try simp only [Act.put, List.setIfInBounds_toArray, List.set_cons_zero, List.set_cons_succ]
          refine held_take (i := 9) (d := 67) (oi := _) (v := ?_) rfl rfl (by kernel_rfl) (by kernel_rfl) (by kernel_rfl) (fun _ _ _ h => h) (Or.inl ⟨by rfl, ?_⟩) hS ?_
          rotate_left
          · intro W hW; obtain ⟨s0, s1⟩ := hW; first | (go_simp; done) | (go_simp; with_reducible rfl)
          try simp only [Act.put, List.setIfInBounds_toArray, List.set_cons_zero, List.set_cons_succ]
          refine held_take (i := 11) (d := 69) (oi := _) (v := ?_) rfl rfl (by kernel_rfl) (by kernel_rfl) (by kernel_rfl) (fun _ _ _ h => h) (Or.inl ⟨by rfl, ?_⟩) hS ?_
          rotate_left
          · intro W hW; obtain ⟨s0, s1⟩ := hW; first | (go_simp; done) | (go_simp; with_reducible rfl)
          try simp only [Act.put, List.setIfInBounds_toArray, List.set_cons_zero, List.set_cons_succ]
          refine held_take (i := 12) (d := 70) (oi := _) (v := ?_) rfl rfl (by kernel_rfl) (by kernel_rfl) (by kernel_rfl) (fun _ _ _ h => h) (Or.inl ⟨by rfl, ?_⟩) hS ?_
          rotate_left
          · intro W hW; obtain ⟨s0, s1⟩ := hW; first | (go_simp; done) | (go_simp; with_reducible rfl)
          try simp only [Act.put, List.setIfInBounds_toArray, List.set_cons_zero, List.set_cons_succ]
          refine wpAnyH_ready (rs := [10]) (by kernel_rfl) (by simp) (AllReadyH.cons rfl (fun K hK => ?_) AllReadyH.nil)
          go_simp
          go_at_call 42
          refine (HCC.out hy0 _ HX4.out).mono ?_
          rintro e w5 ⟨rfl, e5⟩
          have E5 := hide (Ext.trans HX4.out e5)
          refine hK.out _ _ ⟨e5.cell g0, e5.cell g1⟩ (fun hS => ?_)
          clear e5
          clear hK K
          try simp only [Act.put, List.setIfInBounds_toArray, List.set_cons_zero, List.set_cons_succ]
          refine held_take (i := 13) (d := 71) (oi := _) (v := ?_) rfl rfl (by kernel_rfl) (by kernel_rfl) (by kernel_rfl) (fun _ _ _ h => h) (Or.inl ⟨by rfl, ?_⟩) hS ?_
          rotate_left
          · intro W hW; obtain ⟨s0, s1⟩ := hW; first | (go_simp; done) | (go_simp; with_reducible rfl)
          try simp only [Act.put, List.setIfInBounds_toArray, List.set_cons_zero, List.set_cons_succ]
          refine held_take (i := 14) (d := 72) (oi := _) (v := ?_) rfl rfl (by kernel_rfl) (by kernel_rfl) (by kernel_rfl) (fun _ _ _ h => h) (Or.inl ⟨by rfl, ?_⟩) hS ?_
          rotate_left
          · intro W hW; obtain ⟨s0, s1⟩ := hW; first | (go_simp; done) | (go_simp; with_reducible rfl)
          try simp only [Act.put, List.setIfInBounds_toArray, List.set_cons_zero, List.set_cons_succ]
          refine wpAnyH_done (by kernel_rfl) ?_ _
          go_wp2_with fail
          go_ret2
          exact ⟨ret_pairK (by rw [HV1.out.2, HJ2.out HKF.out]; rfl) HV1.out.1.symm, Ext.trans HX2.out E5.out⟩
        have d0 : decide (0 ≤ y) = true := by simp; omega
        have d1 : decide (y + gw ≤ u) = true := by simp; omega
        have d2 : decide (cy < gb) = false := by simp; omega
        have HKF : Hid (kp = false) := hide (by rw [HKP.out]; exact decide_eq_false (by omega))
        have wl : IntKind.i64.wrap (u - gw) = u - gw := by rw [IntKind.wrap_i64]; omega
        go_upto_region 19 with (fail)
        refine wp_region_held_drew (S := fun w' => w'.cell? ⟨w.heap.size, 0, none⟩ = some (.int .i64 gw) ∧ w'.cell? ⟨w.heap.size, 1, none⟩ = some (.int .i64 gb)) (by kernel_rfl) (⟨g0, g1⟩) (fun hS => ?_)
        refine held_take (i := 0) (d := 58) (oi := _) (v := ?_) rfl rfl (by kernel_rfl) (by kernel_rfl) (by kernel_rfl) (fun _ _ _ h => h) (Or.inl ⟨by rfl, ?_⟩) hS ?_
        rotate_left
        · intro W hW; obtain ⟨s0, s1⟩ := hW; first | (go_simp; done) | (go_simp; with_reducible rfl)
        try simp only [Act.put, List.setIfInBounds_toArray, List.set_cons_zero, List.set_cons_succ]
        refine held_take (i := 1) (d := 59) (oi := _) (v := ?_) rfl rfl (by kernel_rfl) (by kernel_rfl) (by kernel_rfl) (fun _ _ _ h => h) (Or.inl ⟨by rfl, ?_⟩) hS ?_
        rotate_left
        · intro W hW; obtain ⟨s0, s1⟩ := hW; first | (go_simp; done) | (go_simp; with_reducible rfl)
        try simp only [Act.put, List.setIfInBounds_toArray, List.set_cons_zero, List.set_cons_succ]
        refine wpAnyH_ready (rs := [2]) (by kernel_rfl) (by simp) (AllReadyH.cons rfl (fun K hK => ?_) AllReadyH.nil)
        go_simp
        go_at_call 41
        refine (within_yes (by omega) _).mono ?_
        rintro e w5 ⟨rfl, rfl⟩
        refine hK.out _ _ ⟨g0, g1⟩ (fun hS => ?_)
        clear hK K
        try simp only [Act.put, List.setIfInBounds_toArray, List.set_cons_zero, List.set_cons_succ]
        refine held_take (i := 3) (d := 61) (oi := _) (v := ?_) rfl rfl (by kernel_rfl) (by kernel_rfl) (by kernel_rfl) (fun _ _ _ h => h) (Or.inl ⟨by rfl, ?_⟩) hS ?_
        rotate_left
        · intro W hW; obtain ⟨s0, s1⟩ := hW; first | (go_simp; done) | (go_simp; with_reducible rfl)
        try simp only [Act.put, List.setIfInBounds_toArray, List.set_cons_zero, List.set_cons_succ]
        refine held_take (i := 4) (d := 62) (oi := _) (v := ?_) rfl rfl (by kernel_rfl) (by kernel_rfl) (by kernel_rfl) (fun _ _ _ h => h) (Or.inl ⟨by rfl, ?_⟩) hS ?_
        rotate_left
        · intro W hW; obtain ⟨s0, s1⟩ := hW; first | (go_simp; done) | (go_simp; with_reducible rfl)
        try simp only [Act.put, List.setIfInBounds_toArray, List.set_cons_zero, List.set_cons_succ]
        refine held_take (i := 5) (d := 63) (oi := _) (v := ?_) rfl rfl (by kernel_rfl) (by kernel_rfl) (by kernel_rfl) (fun _ _ _ h => h) (Or.inl ⟨by rfl, ?_⟩) hS ?_
        rotate_left
        · intro W hW; obtain ⟨s0, s1⟩ := hW; first | (go_simp; done) | (go_simp; with_reducible rfl)
        try simp only [Act.put, List.setIfInBounds_toArray, List.set_cons_zero, List.set_cons_succ]
        refine held_take (i := 6) (d := 64) (oi := _) (v := ?_) rfl rfl (by kernel_rfl) (by kernel_rfl) (by kernel_rfl) (fun _ _ _ h => h) (Or.inl ⟨by rfl, ?_⟩) hS ?_
        rotate_left
        · intro W hW; obtain ⟨s0, s1⟩ := hW; first | (go_simp; done) | (go_simp; with_reducible rfl)
        try simp only [Act.put, List.setIfInBounds_toArray, List.set_cons_zero, List.set_cons_succ]
        refine held_take (i := 7) (d := 65) (oi := _) (v := ?_) rfl rfl (by kernel_rfl) (by kernel_rfl) (by kernel_rfl) (fun _ _ _ h => h) (Or.inl ⟨by rfl, ?_⟩) hS ?_
        rotate_left
        · intro W hW; obtain ⟨s0, s1⟩ := hW; first | (go_simp; done) | (go_simp; with_reducible rfl)
        try simp only [Act.put, List.setIfInBounds_toArray, List.set_cons_zero, List.set_cons_succ]
        refine held_take (i := 8) (d := 66) (oi := _) (v := ?_) rfl rfl (by kernel_rfl) (by kernel_rfl) (by kernel_rfl) (fun _ _ _ h => h) (Or.inl ⟨by rfl, ?_⟩) hS ?_
        rotate_left
        · intro W hW; obtain ⟨s0, s1⟩ := hW; first | (go_simp; done) | (go_simp; with_reducible rfl)
        try simp only [Act.put, List.setIfInBounds_toArray, List.set_cons_zero, List.set_cons_succ]
        refine held_take (i := 9) (d := 67) (oi := _) (v := ?_) rfl rfl (by kernel_rfl) (by kernel_rfl) (by kernel_rfl) (fun _ _ _ h => h) (Or.inl ⟨by rfl, ?_⟩) hS ?_
        rotate_left
        · intro W hW; obtain ⟨s0, s1⟩ := hW; first | (go_simp; done) | (go_simp; with_reducible rfl)
        try simp only [Act.put, List.setIfInBounds_toArray, List.set_cons_zero, List.set_cons_succ]
        refine held_take (i := 11) (d := 69) (oi := _) (v := ?_) rfl rfl (by kernel_rfl) (by kernel_rfl) (by kernel_rfl) (fun _ _ _ h => h) (Or.inl ⟨by rfl, ?_⟩) hS ?_
        rotate_left
        · intro W hW; obtain ⟨s0, s1⟩ := hW; first | (go_simp; done) | (go_simp; with_reducible rfl)
        try simp only [Act.put, List.setIfInBounds_toArray, List.set_cons_zero, List.set_cons_succ]
        refine held_take (i := 12) (d := 70) (oi := _) (v := ?_) rfl rfl (by kernel_rfl) (by kernel_rfl) (by kernel_rfl) (fun _ _ _ h => h) (Or.inl ⟨by rfl, ?_⟩) hS ?_
        rotate_left
        · intro W hW; obtain ⟨s0, s1⟩ := hW; first | (go_simp; done) | (go_simp; with_reducible rfl)
        try simp only [Act.put, List.setIfInBounds_toArray, List.set_cons_zero, List.set_cons_succ]
        refine wpAnyH_ready (rs := [10]) (by kernel_rfl) (by simp) (AllReadyH.cons rfl (fun K hK => ?_) AllReadyH.nil)
        go_simp
        go_at_call 42
        refine (HCC.out hy0 _ HX4.out).mono ?_
        rintro e w5 ⟨rfl, e5⟩
        have E5 := hide (Ext.trans HX4.out e5)
        refine hK.out _ _ ⟨e5.cell g0, e5.cell g1⟩ (fun hS => ?_)
        clear e5
        clear hK K
        try simp only [Act.put, List.setIfInBounds_toArray, List.set_cons_zero, List.set_cons_succ]
        refine held_take (i := 13) (d := 71) (oi := _) (v := ?_) rfl rfl (by kernel_rfl) (by kernel_rfl) (by kernel_rfl) (fun _ _ _ h => h) (Or.inl ⟨by rfl, ?_⟩) hS ?_
        rotate_left
        · intro W hW; obtain ⟨s0, s1⟩ := hW; first | (go_simp; done) | (go_simp; with_reducible rfl)
        try simp only [Act.put, List.setIfInBounds_toArray, List.set_cons_zero, List.set_cons_succ]
        refine held_take (i := 14) (d := 72) (oi := _) (v := ?_) rfl rfl (by kernel_rfl) (by kernel_rfl) (by kernel_rfl) (fun _ _ _ h => h) (Or.inl ⟨by rfl, ?_⟩) hS ?_
        rotate_left
        · intro W hW; obtain ⟨s0, s1⟩ := hW; first | (go_simp; done) | (go_simp; with_reducible rfl)
        try simp only [Act.put, List.setIfInBounds_toArray, List.set_cons_zero, List.set_cons_succ]
        refine wpAnyH_done (by kernel_rfl) ?_ _
        go_wp2_with fail
        first | (go_roundw; (case rel => exact ⟨j + 1, by omega, by go_num, hide (HJ1.out HKF.out), E5⟩); (case measure => simp [intOf]; omega)) | exact ⟨⟨j + 1, by omega, by go_num, hide (HJ1.out HKF.out), E5⟩, by simp [intOf]; omega⟩
      have hjn : j = n2 := by omega
      subst hjn
      have HAN : Hid ((kpL T gw u).any (kpN T gw gb u) = false) := hide (any_none (fun i hi => HJ.out i (by have := HN2.out; omega)))
      clear HJ hlt
      have h0 : ¬ (j : Int) < (j : Int) := by omega
      go_wp2_with fail
      go_ret2
      exact ⟨ret_pairK (by rw [HV1.out.2, HAN.out]; rfl) HV1.out.1.symm, Ext.trans HX2.out HX3.out⟩
end Go.Proofs.Ytjbgkoeojfmkkaa
namespace Go.Proofs.Ytjbgkoeojfmkkaa
open Go.ChangeShapes Go.WideShapes Go.ChangeAt Go.RowKit Go.Joins Go.Deep
section
variable {H : Type} {enc : TypeId × Value → H} {W : World} {base : Nat}
set_option maxRecDepth 100000 in
theorem open_promise {v : Value} {d : DataW H} {p : List MemPlace} (hv : Value.okWide Try.prog W .any base 44 v) (h : DataW.Trod enc Try.prog W 0 (fun _ => true) true 44 v d p) : ∃ a b, v = .agg #[.int .i64 a, .int .i64 b] := by
  obtain ⟨cs, rfl, hsz⟩ := okWide_struct Try.underlying44 hv
  obtain ⟨l⟩ := cs
  have hC : Try.prog.cellsOf 44 = 2 := by kernel_rfl
  match l, hsz.trans hC with
  | [c0, c1], _ =>
    obtain ⟨fuel, hf⟩ := h
    obtain ⟨xs, n, _, hx, _, hlen, hg⟩ := DataW.trod_struct Try.underlying44 hf
    match xs, hlen with
    | [y0, y1], _ =>
      obtain ⟨x0, rfl⟩ := fldIntC (c := 0) Try.underlying3 cellsInt rfl (hg 0 _ rfl)
      obtain ⟨x1, rfl⟩ := fldIntC (c := 1) Try.underlying3 cellsInt rfl (hg 1 _ rfl)
      exact ⟨x0, x1, rfl⟩
theorem trodAll_six {t t' t2 t3 t4 t5 : TypeId} {args : Array Value} {P : Program} {w : World} {spare : Nat → Bool} {held : Bool} {ds : List (DataW H)} {ps : List MemPlace} (h : DataW.TrodAll enc P w base spare held [t, t', t2, t3, t4, t5] args.toList ds ps) :
    ∃ v v' v2 v3 v4 v5 d d' d2 d3 d4 d5 p p' p2 p3 p4 p5, args = #[v, v', v2, v3, v4, v5] ∧ ds = [d, d', d2, d3, d4, d5] ∧ ps = p ++ p' ++ p2 ++ p3 ++ p4 ++ p5 ∧ DataW.Trod enc P w base spare held t v d p ∧ DataW.Trod enc P w base spare held t' v' d' p' ∧ DataW.Trod enc P w base spare held t2 v2 d2 p2 ∧ DataW.Trod enc P w base spare held t3 v3 d3 p3 ∧ DataW.Trod enc P w base spare held t4 v4 d4 p4 ∧ DataW.Trod enc P w base spare held t5 v5 d5 p5 := by
  obtain ⟨v, vs, d, ds', p, q, hargs, rfl, rfl, hd, hrest⟩ := trodAll_cons h
  obtain ⟨v', vs', d', ds1, p', q', rfl, rfl, rfl, hd', hrest'⟩ := trodAll_cons hrest
  obtain ⟨v2, vs2, d2, ds2, p2, q2, rfl, rfl, rfl, hd2, hrest2⟩ := trodAll_cons hrest'
  obtain ⟨v3, vs3, d3, ds3, p3, q3, rfl, rfl, rfl, hd3, hrest3⟩ := trodAll_cons hrest2
  obtain ⟨v4, vs4, d4, ds4, p4, q4, rfl, rfl, rfl, hd4, hrest4⟩ := trodAll_cons hrest3
  obtain ⟨v5, vs5, d5, ds5, p5, q5, rfl, rfl, rfl, hd5, hrest5⟩ := trodAll_cons hrest4
  obtain ⟨rfl, rfl, rfl⟩ := trodAll_nil hrest5
  exact ⟨v, v', v2, v3, v4, v5, d, d', d2, d3, d4, d5, p, p', p2, p3, p4, p5, by cases args; simp_all, rfl, by simp, hd, hd', hd2, hd3, hd4, hd5⟩
end
end Go.Proofs.Ytjbgkoeojfmkkaa
