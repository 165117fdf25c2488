/- Proved: for all films, players and rates TopPlayersStayInLadders returns true: on a network that is the same all the time a player that goes by rates, and trusts them at most wholly, never takes a better rendition than who knows the network does by the ladder, but for the first segment. Conditions: the listed tables of the library's read as the program's text lays them (tied by the card). -/
import Derived.Test.YtfelgolfebhmkaaDoorMtm10
import Derived.Test.YtfelgolfebhmkaaDoorMtm45
import Derived.Test.YtfelgolfebhmkaaDoorMtm48
import Derived.Test.YtfelgolfebhmkaaDoorMtm46
import Derived.Test.YtfelgolfebhmkaaDoorCards
import Derived.Test.YtfelgolfebhmkaaDoorTie
import Derived.OpenShut
import Derived.Deep.DeepHandedRow
import Derived.Lib.LaidTab
import Derived.Shelf.Vars
namespace Go.Proofs.YtfelgolfebhmkaaDoor
open Go.ChangeShapes Go.WideShapes Go.ChangeAt Go.RowKit
theorem rates_at (L : List Int) (S : List (List Int)) (i : Nat) (h : i < S.length) : (ratesL L S).getD i 0 = 1000 * (S.getD i []).sum / L.sum := by simp [ratesL, List.getD, h]
theorem rates_up {L : List Int} {S : List (List Int)} {Q : List Int} (ok : FilmOk L S Q) (hL : 0 < L.sum) {k : Nat} (hk : k + 1 < S.length) : (ratesL L S).getD k 0 ≤ (ratesL L S).getD (k + 1) 0 := by
  rw [rates_at _ _ _ (by omega), rates_at _ _ _ hk]
  have h1 : (S.getD k []).sum ≤ (S.getD (k + 1) []).sum := by
    have h3 := ok.el (k + 1) hk
    unfold szEl at h3
    rw [Nat.add_sub_cancel] at h3
    apply Classical.byContradiction
    intro hc
    have hc2 : 0 < k + 1 ∧ (Q.getD (k + 1) 0 < Q.getD k 0 ∨ (S.getD (k + 1) []).sum < (S.getD k []).sum) := ⟨by omega, .inr (by omega)⟩
    rw [if_pos hc2] at h3
    repeat' (split at h3)
    all_goals omega
  exact Int.ediv_le_ediv hL (by omega)
set_option linter.unusedVariables false in
set_option maxRecDepth 100000 in
set_option maxHeartbeats 4000000 in
theorem stay_any {lA : Option Addr} {ln lc : Nat} {sA : Option Addr} {sn sc : Nat} {qA : Option Addr} {qn qc : Nat} {L : List Int} {S : List (List Int)} {Q : List Int} {d0 s0 r0 f0 i0 k0 l0 t0 lo0 hi0 a0 x0 y0 z0 rate : Int} {w : World}
    (h : Shw w lA ln lc sA sn sc qA qn qc L S Q) (htab : TabW w) :
    Calls Tryd.prog 3 #[.agg #[.slice lA ln lc, .slice sA sn sc, .slice qA qn qc], .agg #[.int .i64 d0, .int .i64 s0, .int .i64 r0, .int .i64 f0, .int .i64 i0, .int .i64 k0, .int .i64 l0, .int .i64 t0, .int .i64 lo0, .int .i64 hi0, .int .i64 a0, .int .i64 x0, .int .i64 y0, .int .i64 z0], .int .i64 rate] w fun e w' => e = .returned (.bool true) ∧ Ext w w' := by
  have hln := h.longs.len
  refine stay_of (R := mratesL L S Q) (Q := Q) (ff := filmF L S Q) (uf := runF L S Q [(0, rate)] d0 s0 r0 f0 i0 k0 l0 t0 lo0 hi0 a0 x0 y0 z0)
    (G := fun C => RunOk f0 s0 r0 L S (gvF C) (trF [(0, rate)] d0) 1000000000000 1000100000 ∧ okC S.length C ∧ C.length = L.length ∧ ∀ n, n < L.length → 0 < n → k0 = 2 → C.getD n 0 = rateC (ratesL L S) (sumB ((folF f0 s0 r0 L S (gvF C) (trF [(0, rate)] d0) n).loads.drop ((folF f0 s0 r0 L S (gvF C) (trF [(0, rate)] d0) n).loads.length - l0.toNat))) (sumG ((folF f0 s0 r0 L S (gvF C) (trF [(0, rate)] d0) n).loads.drop ((folF f0 s0 r0 L S (gvF C) (trF [(0, rate)] d0) n).loads.length - l0.toNat))) t0)
    h.qual htab ?_ ?_ ?_ ?_ ?_ ?_ ?_ ?_ ?_
  · exact fun W hW => keyRates_any (h.ext hW)
  · intro W T c hW hT
    refine (keyRun_any (h.ext hW) hT).mono fun e w' hg => ?_
    by_cases hu : runF L S Q [(0, rate)] d0 s0 r0 f0 i0 k0 l0 t0 lo0 hi0 a0 x0 y0 z0 = 0
    · obtain ⟨C, cA, cc, aA, ac, bA, bc, dA, dc, he, ⟨c1, c2, _, _, c5⟩, ⟨m1, _, _, _⟩, hx, _, hok⟩ := run_form hu hg
      refine ⟨hx, cA, L.length, cc, aA, L.length, ac, bA, L.length, bc, _, dA, _, dc, _, C, by rw [hu]; exact he, m1, fun hc => absurd hu hc, fun _ => ⟨hln, hok, c2, c1, fun n hn hn0 hk => (c5 n hn).2 hn0 hk⟩⟩
    · obtain ⟨hx, hz, _⟩ := hg
      exact ⟨hx, none, 0, 0, none, 0, 0, none, 0, 0, 0, none, 0, 0, 0, [], hz hu, At.nil _ _ _, fun _ => rfl, fun hc => absurd hc hu⟩
  · exact fun hu => (runF_zero hu).1
  · intro hu
    obtain ⟨_, hT, _, _⟩ := runF_zero hu
    obtain ⟨_, _, hall, hlast⟩ := trcF_zero hT
    have h1 := (trEl_zero (hall 0 (by simp))).2.1
    simp at h1 hlast
    omega
  · intro hu
    have hF := (runF_zero hu).1
    have ok := filmF_ok hF
    have hm : mratesL L S Q = ratesL L S := by unfold mratesL; rw [if_pos hF]
    rw [hm, rates_len]
    exact ⟨ok.s1, ok.q⟩
  · intro hu k hk
    have hF := (runF_zero hu).1
    have ok := filmF_ok hF
    have hm : mratesL L S Q = ratesL L S := by unfold mratesL; rw [if_pos hF]
    rw [hm, rates_len] at hk
    rw [hm]
    have hLs := sum_pos (l := L) (by have := ok.l0; omega) (by have := ok.l1; omega) ok.lr
    exact rates_up ok (by omega) hk
  · intro hu k hk
    have hF := (runF_zero hu).1
    have ok := filmF_ok hF
    have hm : mratesL L S Q = ratesL L S := by unfold mratesL; rw [if_pos hF]
    rw [hm, rates_len] at hk
    exact ok.qr k hk
  · intro hu hk ht C hC i hi0 hil
    obtain ⟨hok, hkC, hlC, hrc⟩ := hC
    have hF := (runF_zero hu).1
    have hd := (runF_zero hu).2.2.1
    have ok := filmF_ok hF
    have hm : mratesL L S Q = ratesL L S := by unfold mratesL; rw [if_pos hF]
    have hT := (runF_zero hu).2.1
    obtain ⟨_, _, hall, hlast⟩ := trcF_zero hT
    have h1 := (trEl_zero (hall 0 (by simp))).2.1
    simp at h1 hlast
    have hpl := (runF_zero2 hu).1
    have hl : (1 ≤ l0) ∧ 1 ≤ t0 := by
      subst hk
      unfold plrF at hpl
      repeat' (split at hpl)
      all_goals omega
    rw [hm, rates_len]
    have hb := hkC i
    refine ⟨by omega, by omega, fun h0 => ?_⟩
    exact (choice_in (R := ratesL L S) hok (by omega) hd (fun a b ha hb => ok.sr a ha b hb) hl.1 ⟨by omega, ht⟩ (by omega) hi0 (hrc i (by omega) hi0 hk) h0).1
  · exact comes_any
theorem tabW_of {W : World} (h : laidMet Tryd.prog Rows.topPlayersStayInLaddersRow.laid W) : TabW W := by
  obtain ⟨ps, hl, _, _⟩ := h
  obtain ⟨g1, t1, cs1, u1, p1, q1, _, _, _, _, hl, _⟩ := hl
  obtain ⟨g2, t2, cs2, u2, p2, q2, _, _, _, _, hl, _⟩ := hl
  obtain ⟨g3, t3, cs, u3, p3, q3, hg, ht, hvar, hd, _, _⟩ := hl
  have hg' : Tryd.prog.globalNamed "internal/strconv.uint64pow10" = some 0 := by kernel_rfl
  obtain rfl := Option.some.inj (hg'.symm.trans hg)
  have hty : (Tryd.prog.globals[0]?).map (·.type) = some 121 := by kernel_rfl
  obtain rfl := Option.some.inj (hty.symm.trans ht)
  have hdat : (Rows.laid_internal_strconv_uint64pow10 : DataW Unit) = Lib.tabData .u64 Lib.pow10Tab := by kernel_rfl
  rw [hdat] at hd
  show W.var? Tryd.prog "internal/strconv.uint64pow10" = some (Lib.pow10Tab.map fun z => Value.int .u64 z).toArray
  rw [hvar, ← Lib.cells_of_tab Tryd.underlying121 Tryd.underlying95 (by kernel_rfl) (by kernel_rfl) hd]
noncomputable def layPow : Obj → Obj
  | .cells _ t frozen => .cells #[.int .u64 1, .int .u64 10, .int .u64 100, .int .u64 1000, .int .u64 10000, .int .u64 100000, .int .u64 1000000, .int .u64 10000000, .int .u64 100000000, .int .u64 1000000000, .int .u64 10000000000, .int .u64 100000000000, .int .u64 1000000000000, .int .u64 10000000000000, .int .u64 100000000000000, .int .u64 1000000000000000, .int .u64 10000000000000000, .int .u64 100000000000000000, .int .u64 1000000000000000000, .int .u64 10000000000000000000] t frozen
  | o => o
noncomputable def lay32 : Obj → Obj
  | .cells _ t frozen => .cells #[.int .u8 0, .int .u8 1, .int .u8 28, .int .u8 2, .int .u8 29, .int .u8 14, .int .u8 24, .int .u8 3, .int .u8 30, .int .u8 22, .int .u8 20, .int .u8 15, .int .u8 25, .int .u8 17, .int .u8 4, .int .u8 8, .int .u8 31, .int .u8 27, .int .u8 13, .int .u8 23, .int .u8 21, .int .u8 19, .int .u8 16, .int .u8 7, .int .u8 26, .int .u8 12, .int .u8 18, .int .u8 6, .int .u8 11, .int .u8 5, .int .u8 10, .int .u8 9] t frozen
  | o => o
noncomputable def lay64 : Obj → Obj
  | .cells _ t frozen => .cells #[.int .u8 0, .int .u8 1, .int .u8 56, .int .u8 2, .int .u8 57, .int .u8 49, .int .u8 28, .int .u8 3, .int .u8 61, .int .u8 58, .int .u8 42, .int .u8 50, .int .u8 38, .int .u8 29, .int .u8 17, .int .u8 4, .int .u8 62, .int .u8 47, .int .u8 59, .int .u8 36, .int .u8 45, .int .u8 43, .int .u8 51, .int .u8 22, .int .u8 53, .int .u8 39, .int .u8 33, .int .u8 30, .int .u8 24, .int .u8 18, .int .u8 12, .int .u8 5, .int .u8 63, .int .u8 55, .int .u8 48, .int .u8 27, .int .u8 60, .int .u8 41, .int .u8 37, .int .u8 16, .int .u8 46, .int .u8 35, .int .u8 44, .int .u8 21, .int .u8 52, .int .u8 32, .int .u8 23, .int .u8 11, .int .u8 54, .int .u8 26, .int .u8 40, .int .u8 15, .int .u8 34, .int .u8 20, .int .u8 31, .int .u8 10, .int .u8 25, .int .u8 14, .int .u8 19, .int .u8 9, .int .u8 13, .int .u8 8, .int .u8 7, .int .u8 6] t frozen
  | o => o
noncomputable def laidWorld (os : Os) : World :=
  { World.holding Tryd.prog os ⟨#[], #[], []⟩ with heap := (((World.holding Tryd.prog os ⟨#[], #[], []⟩).heap.modify 0 layPow).modify 1 lay32).modify 2 lay64 }
set_option maxRecDepth 100000 in
theorem laid_met (os : Os) : laidMet Tryd.prog Rows.topPlayersStayInLaddersRow.laid ((laidWorld os).forCall (fun _ _ => 0) ⟨#[], #[.agg #[.slice none 0 0, .slice none 0 0, .slice none 0 0], .agg #[.int .i64 0, .int .i64 0, .int .i64 0, .int .i64 0, .int .i64 0, .int .i64 0, .int .i64 0, .int .i64 0, .int .i64 0, .int .i64 0, .int .i64 0, .int .i64 0, .int .i64 0, .int .i64 0], .int .i64 0], []⟩).memory :=
  laidMet_of_run' 8 (by kernel_rfl) (by kernel_rfl)
set_option maxRecDepth 100000 in
theorem reads (os : Os) {H : Type} (enc : TypeId × Value → H) : ∃ places, DataW.whole enc Tryd.prog ((laidWorld os).forCall (fun _ _ => 0) ⟨#[], #[.agg #[.slice none 0 0, .slice none 0 0, .slice none 0 0], .agg #[.int .i64 0, .int .i64 0, .int .i64 0, .int .i64 0, .int .i64 0, .int .i64 0, .int .i64 0, .int .i64 0, .int .i64 0, .int .i64 0, .int .i64 0, .int .i64 0, .int .i64 0, .int .i64 0], .int .i64 0], []⟩).memory Tryd.f3.params.toList Rows.topPlayersStayInLaddersSpec.vars false (#[.agg #[.slice none 0 0, .slice none 0 0, .slice none 0 0], .agg #[.int .i64 0, .int .i64 0, .int .i64 0, .int .i64 0, .int .i64 0, .int .i64 0, .int .i64 0, .int .i64 0, .int .i64 0, .int .i64 0, .int .i64 0, .int .i64 0, .int .i64 0, .int .i64 0], .int .i64 0] : Array Value).toList 8 = some ([.agg [.nil, .nil, .nil], .agg [.lit (.int .i64 0), .lit (.int .i64 0), .lit (.int .i64 0), .lit (.int .i64 0), .lit (.int .i64 0), .lit (.int .i64 0), .lit (.int .i64 0), .lit (.int .i64 0), .lit (.int .i64 0), .lit (.int .i64 0), .lit (.int .i64 0), .agg [.lit (.int .i64 0), .lit (.int .i64 0), .lit (.int .i64 0)]], .lit (.int .i64 0)], [], places) :=
  ⟨[], by kernel_rfl⟩
set_option maxRecDepth 100000 in
theorem stay_lifted (os : Os) (started : os.Started) (H : Type) (enc : TypeId × Value → H) (F : Stop.Interp) :
    ReturnsInHanded {} Tryd.checked os 3 .any ((OpenSpec.ofChange Rows.topPlayersStayInLaddersSpec).preRow enc Tryd.prog Tryd.f3 Rows.topPlayersStayInLaddersRow.domain false Rows.topPlayersStayInLaddersRow.laid) (((OpenSpec.ofChange Rows.topPlayersStayInLaddersSpec).at F).post enc Tryd.prog Tryd.f3 false true false false) := by
  obtain ⟨places, hx⟩ := reads os enc
  refine returnsInHanded_of_row (C := Tryd.checked) (s := OpenSpec.ofChange Rows.topPlayersStayInLaddersSpec) Tryd.own started (by kernel_rfl) Tryd.func3
    (witness_row_at (enc := enc) (C := Tryd.checked) false (laidWorld os) #[.agg #[.slice none 0 0, .slice none 0 0, .slice none 0 0], .agg #[.int .i64 0, .int .i64 0, .int .i64 0, .int .i64 0, .int .i64 0, .int .i64 0, .int .i64 0, .int .i64 0, .int .i64 0, .int .i64 0, .int .i64 0, .int .i64 0, .int .i64 0, .int .i64 0], .int .i64 0] rfl (by kernel_rfl) (by kernel_rfl) (by kernel_rfl)
      (OpenSpec.preRow_of_cond 8 hx (by kernel_rfl) (fun k hk => by cases hk) (by kernel_rfl) (laid_met os))) ?_
  intro W base args ds gs before hval0 hW _ _ _ hlaid _ _
  have hval : ∀ (j : Nat) t v, Tryd.f3.params[j]? = some t → args[j]? = some v → Value.okWide Tryd.prog W .any base t v := hval0
  have hW2 : DataW.Whole enc Tryd.prog Tryd.f3.params.toList Rows.topPlayersStayInLaddersSpec.vars false W args.toList ds gs before := hW
  have hW' := hW2
  obtain ⟨p, q, hA0, hV, rfl, _, _⟩ := hW2
  have hA : DataW.TrodAll enc Tryd.prog W 0 (fun _ => true) true Tryd.f3.params.toList args.toList ds p := hA0
  rw [Tryd.params3] at hA hval
  obtain ⟨v0, v1, v2, d0, d1, d2, p0, p1, p2, rfl, rfl, rfl, h0, h1, h2⟩ := trodAll_three hA
  obtain ⟨lA, ln, lc, sA, sn, sc, qA, qn, qc, L, S, Q, rfl, hSh⟩ := open_show (hval 0 25 v0 rfl rfl) h0
  obtain ⟨q0, q1, q2, q3, q4, q5, q6, q7, q8, q9, q10, q11, q12, q13, rfl⟩ := open_player (hval 1 29 v1 rfl rfl) h1
  obtain ⟨x2, rfl, rfl, rfl, _⟩ := open_int Tryd.underlying3 (hval 2 3 v2 rfl rfl) h2
  have ht : TabW W := tabW_of hlaid
  refine (stay_any hSh ht).mono fun e W' ⟨he, hE⟩ => ?_
  subst he
  exact ⟨_, rfl, law_post Tryd.laidOut Tryd.underlying4 hW' rfl rfl rfl (by kernel_rfl) hE⟩
theorem stay_said : Rows.TopPlayersStayInLaddersSaid :=
  OpenClaim.holds_of_cond 3 Tryd.f3 rfl rfl rfl rfl rfl rfl rfl ⟨rfl, rfl, rfl, rfl, rfl⟩ rfl rfl rfl rfl rfl (by as_aux_lemma => kernel_rfl) Tryd.func3 (by as_aux_lemma => kernel_rfl)
    (of_decide_eq_true (by kernel_rfl)) (by unfold Func.isWrapper; first | (rw [if_pos (by decide +kernel)]; kernel_rfl) | (rw [if_neg (by decide +kernel)]; exact ⟨rfl, rfl⟩))
    (fun os started H enc _ F => by rw [OpenClaim.pre_eq_preRow]; exact stay_lifted os started H enc F)
theorem plain3 (f : FuncId) (fn : Func) (hf : Tryd.pinned.checked.prog.funcNamed "headend/headendtop.TopPlayersStayInLadders" = some f) (hfn : Tryd.pinned.checked.prog.funcs[f]? = some fn) :
    false = Tryd.pinned.checked.prog.looks [] ∧ ∀ (j : Nat) t, fn.params[j]? = some t → Tryd.pinned.checked.prog.wantsStandIn t = false := by
  obtain rfl : f = 3 := Option.some.inj ((show Tryd.prog.funcNamed "headend/headendtop.TopPlayersStayInLadders" = some 3 by kernel_rfl).symm.trans hf) |>.symm
  obtain rfl : fn = Tryd.f3 := (Option.some.inj (Tryd.func3.symm.trans hfn)).symm
  refine ⟨by kernel_rfl, fun j t ht => ?_⟩
  rw [Tryd.params3] at ht
  have hm : t = 25 ∨ t = 29 ∨ t = 3 := by
    match j, ht with
    | 0, ht => simp at ht; exact .inl ht.symm
    | 1, ht => simp at ht; exact .inr (.inl ht.symm)
    | 2, ht => simp at ht; exact .inr (.inr ht.symm)
    | j + 3, ht => simp at ht
  rcases hm with rfl | rfl | rfl
  · exact (show Tryd.prog.wantsStandIn 25 = false by kernel_rfl)
  · exact (show Tryd.prog.wantsStandIn 29 = false by kernel_rfl)
  · exact (show Tryd.prog.wantsStandIn 3 = false by kernel_rfl)
theorem topPlayersStayInLadders_holds : Rows.TopPlayersStayInLaddersCardSaid :=
  Claim7.holds_tied_plain_at .later [] _ _ _ _ stay_said (fun _ h => by cases h) (by kernel_rfl) (fun _ h => by cases h) topPlayersStayInLadders_row_tie rfl ⟨rfl, rfl⟩ (by kernel_rfl) rfl plain3 (by kernel_rfl)
#print axioms topPlayersStayInLadders_holds
end Go.Proofs.YtfelgolfebhmkaaDoor
