/- Proved: for all fragments and every number BoxFragmentsMatchSpec returns true: FragmentBytes, Fragments and Joined of the program and of the document give the same, with the same faults. Conditions: none. -/
import Derived.Test.YtgnmnhlhiiehfaaSamF
import Derived.Test.YtgnmnhlhiiehfaaJoiA
import Derived.Test.YtgnmnhlhiiehfaaFbyR
import Derived.Test.YtgnmnhlhiiehfaaBoxE
import Derived.Test.YtgnmnhlhiiehfaaOpenS
import Derived.Test.YtgnmnhlhiiehfaaOpens2
import Derived.Test.YtgnmnhlhiiehfaaLawG
namespace Go.Proofs.Ytgnmnhlhiiehfaa
open Go.ChangeShapes Go.WideShapes Go.ChangeAt Go.RowKit Go.Joins Go.Deep
section
variable {H : Type} {enc : TypeId × Value → H} {W : World} {base : Nat}
theorem frs_of {W : World} : ∀ hs : List FrH, (∀ y ∈ hs, ∃ l : List Smp, At W 5 eSm y.sA y.sn y.sc l) → ∃ L : List (Int × List Smp), hs.length = L.length ∧ ∀ (i : Nat) (y : FrH) (x : Int × List Smp), hs[i]? = some y → L[i]? = some x → FrOk W (fun _ => True) y x
  | [], _ => ⟨[], rfl, fun i y x hy _ => by simp at hy⟩
  | y :: hs, h => by
    obtain ⟨L, h1, h2⟩ := frs_of hs (fun z hz => h z (List.mem_cons_of_mem _ hz))
    obtain ⟨l, hl⟩ := h y (List.mem_cons_self ..)
    refine ⟨(y.num, l) :: L, by simp [h1], fun i z x hz hx => ?_⟩
    cases i with
    | zero =>
      simp at hz hx
      subst hz hx
      exact ⟨rfl, hl, fun _ _ => trivial⟩
    | succ i =>
      simp at hz hx
      exact h2 i z x hz hx
set_option maxRecDepth 100000 in
theorem open_frags {v : Value} {d : DataW H} {p : List MemPlace} (hv : Value.okWide Try.prog W .any base 31 v) (h : DataW.Trod enc Try.prog W 0 (fun _ => true) true 31 v d p) :
    ∃ A n c L, v = .slice A n c ∧ FrsAt W (fun _ => True) A n c L := by
  obtain ⟨A, n, c, hs, rfl, hat, hg, _⟩ := open_structsP (α := FrH) (en := eFr) (good := fun y => ∃ l : List Smp, At W 5 eSm y.sA y.sn y.sc l) (sz := 2) Try.underlying31 Try.underlying35 (by kernel_rfl) (by kernel_rfl) rfl (by omega) (fun cs k hl hd => by
    obtain ⟨v0, y0, g0, t0⟩ := hd 0 _ rfl
    obtain ⟨v1, y1, g1, t1⟩ := hd 1 _ rfl
    obtain ⟨x0, rfl, _⟩ := fldInt Try.underlying3 t0
    obtain ⟨A, m, c, rfl⟩ := fldSlice Try.underlying30 t1
    obtain ⟨d, p⟩ := y1
    obtain ⟨l, h1, _, _⟩ := open_structsQ (sz := 5) Try.underlying30 Try.underlying40 (by kernel_rfl) (by kernel_rfl) rfl (by omega) (decSmp Try.underlying3 Try.underlying3 Try.underlying3 Try.underlying3 Try.underlying4) t1
    match cs, hl with
    | [c0, c1], _ =>
      simp at g0 g1
      exact ⟨⟨x0, A, m, c⟩, ⟨l, h1⟩, by rw [g0, g1]⟩) hv h
  obtain ⟨L, h1, h2⟩ := frs_of hs hg
  exact ⟨A, n, c, L, rfl, hs, hat, fun _ _ => trivial, h1, h2⟩
end
theorem FrsAt.nil (w : World) (G : Nat → Prop) : FrsAt w G none 0 0 [] := ⟨[], At.nil _ _ _, (fun a h => by cases h), rfl, fun i y x hy _ => by simp at hy⟩
theorem FrsAt.ext {w w' : World} {G : Nat → Prop} {A : Option Addr} {n c : Nat} {L : List (Int × List Smp)} (h : FrsAt w G A n c L) (he : Ext w w') : FrsAt w' (fun _ => True) A n c L := by
  obtain ⟨hs, h1, h2, h3, h4⟩ := h
  exact ⟨hs, h1.ext he, fun _ _ => trivial, h3, fun i y x hy hx => ⟨(h4 i y x hy hx).1, (h4 i y x hy hx).2.1.ext he, fun _ _ => trivial⟩⟩
set_option linter.unusedVariables false in
set_option maxRecDepth 100000 in
set_option maxHeartbeats 8000000 in
theorem frmatch_any {A : Option Addr} {m c : Nat} {L : List (Int × List Smp)} {n : Int} {w : World} (h : FrsAt w (fun _ => True) A m c L) :
    Calls Try.prog 7 #[.slice A m c, .int .i64 n] w fun e w' => e = .returned (.bool true) ∧ Ext w w' := by
  have HAW := hide (fun (W : World) => awake_any W)
  have HJK := hide (keyJoined_any h)
  have HJR := hide (fun (W : World) (hW : Ext w W) => refJoined_any (h.ext hW))
  have H := hide h
  obtain ⟨hs, h1, _, h3, h4⟩ := h
  have hl := h1.len
  have hb := h1.bound
  have HA := hide h1
  have HEL : Hid (∀ i, i < m → FrOk w (fun _ => True) (hs.getD i default) (L.getD i (0, []))) := hide (fun i hi => by
    have hi1 : i < hs.length := by omega
    have hi2 : i < L.length := by omega
    rw [List.getD_eq_getElem?_getD, List.getD_eq_getElem?_getD, List.getElem?_eq_getElem hi1, List.getElem?_eq_getElem hi2]
    exact h4 i _ _ (List.getElem?_eq_getElem hi1) (List.getElem?_eq_getElem hi2))
  generalize joinF L = jf at *
  clear h1 h3 h4 hl
  go_enter Try.func7, Try.ntmps7
  go_wp2_with fail
  with_reducible refine HJK.out.mono ?_
  rintro e w1 ⟨N1, k1, c1, rfl, q1, e1⟩
  have E1 := hide e1
  have Q1 := hide q1
  clear q1 e1
  go_wp2_with fail
  with_reducible refine (HJR.out _ E1.out).mono ?_
  rintro e w2 ⟨N2, k2, c2, rfl, q2, e2⟩
  have E2 := hide (Ext.trans E1.out e2)
  have HSE := hide (smpEq_true (Q1.out.ext e2) q2)
  clear q2 e2
  go_wp2_with fail
  with_reducible refine HSE.out.mono ?_
  rintro e w3 ⟨rfl, e3⟩
  have E3 := hide (Ext.trans E2.out e3)
  have dj : (jf != jf) = false := by simp
  clear e3 HSE Q1 E1 E2 HJK HJR
  go_wp2_with fail
  go_loopw [9] (fun ri wr => ∃ k : Nat, k ≤ m ∧ ri = .int .i64 k ∧ Hid (Ext w wr)) (fun ri _ => m - (intOf ri).toNat)
  case atStart => exact ⟨0, by omega, rfl, E3⟩
  case round =>
    obtain ⟨k, hk, rfl, HX⟩ := hrel
    by_cases hlt : k < m
    · obtain ⟨b, off, rfl, _⟩ := HA.out.addr (by omega)
      have HCELL := hide (fun (W : World) (hW : Ext w W) => (⟨by have := (HA.out.ext hW).cellK hlt default 0 _ rfl; rwa [Nat.add_zero, (HEL.out k hlt).1] at this, (HA.out.ext hW).cellK hlt default 1 _ rfl⟩ : W.cell? ⟨b, off + k * 2, none⟩ = some (.int .i64 (L.getD k (0, [])).1) ∧ W.cell? ⟨b, off + k * 2 + 1, none⟩ = some (.slice (hs.getD k default).sA (hs.getD k default).sn (hs.getD k default).sc)))
      have HSAT := hide (HEL.out k hlt).2.1
      generalize (L.getD k (0, [])).1 = q at *
      generalize (L.getD k (0, [])).2 = xs at *
      generalize (hs.getD k default).sA = sA at *
      generalize (hs.getD k default).sn = sn at *
      generalize (hs.getD k default).sc = sc at *
      have i1 : (k : Int) < (m : Int) := by omega
      have i0 : (0 : Int) ≤ (k : Int) := by omega
      have i8 : IntKind.i64.wrap ((k : Int) + 1) = (k : Int) + 1 := by rw [IntKind.wrap_i64]; omega
      have HBK := hide (fun (W : World) (hW : Ext w W) => keyFbytes_any (num := q) (HSAT.out.ext hW))
      have HBR := hide (fun (W : World) (hW : Ext w W) => refFbytes_any (num := q) (HSAT.out.ext hW))
      generalize fragF q xs = ff at *
      obtain ⟨a0, a1⟩ := HCELL.out wr HX.out
      go_wp2_with fail
      with_reducible refine (HBK.out _ HX.out).mono ?_
      rintro e w4 ⟨B1, p1, d1, rfl, b1, e4⟩
      have E4 := hide (Ext.trans HX.out e4)
      have B1_ := hide b1
      clear b1 e4 a0 a1
      obtain ⟨a0, a1⟩ := HCELL.out _ E4.out
      go_wp2_with fail
      with_reducible refine (HBR.out _ E4.out).mono ?_
      rintro e w5 ⟨B2, p2, d2, rfl, b2, e5⟩
      have E5 := hide (Ext.trans E4.out e5)
      have HBE := hide (Calls.mono (bytesEq_any (B1_.out.ext e5) b2) (fun e w' he => (⟨by rw [he.1]; simp, he.2⟩ : e = .returned (.bool true) ∧ w5 = w')))
      have df : (ff != ff) = false := by simp
      clear b2 e5 a0 a1 B1_ HBK HBR
      go_wp2_with fail
      with_reducible refine HBE.out.mono ?_
      rintro e w' ⟨rfl, rfl⟩
      obtain ⟨a0, a1⟩ := HCELL.out _ E5.out
      by_cases hF : frgF n xs = 0
      · obtain ⟨hs0, hr⟩ : smpF xs = 0 ∧ ¬ (n < 1 ∨ 5000 < n) := by
          unfold frgF at hF
          by_cases h0 : smpF xs = 0
          · refine ⟨h0, fun hr => ?_⟩
            rw [if_neg (by omega), if_pos hr] at hF; omega
          · rw [if_pos h0] at hF; exact absurd hF h0
        obtain ⟨nn, rfl⟩ : ∃ nn : Nat, n = (nn : Int) := ⟨n.toNat, by omega⟩
        have hn1 : 1 ≤ nn ∧ nn ≤ 5000 := by omega
        have HFK := hide (fun (W : World) (hW : Ext w W) => keyFragments_ok (HSAT.out.ext hW) hs0 hn1)
        have HFR := hide (fun (W : World) (hW : Ext w W) => refFragments_ok (HSAT.out.ext hW) hs0 hn1)
        clear hF hs0 hr hn1
        go_wp2_with fail
        with_reducible refine (HFK.out _ E5.out).mono ?_
        rintro e w6 ⟨e6, M1, m1, j1, rfl, f1, g1, g2⟩
        have E6 := hide (Ext.trans E5.out e6)
        have F1 := hide f1
        have G12 := hide (And.intro g1 g2)
        clear f1 g1 g2 e6 a0 a1 HFK
        obtain ⟨a0, a1⟩ := HCELL.out _ E6.out
        go_wp2_with fail
        with_reducible refine (HFR.out _ E6.out).mono ?_
        rintro e w7 ⟨e7, M2, m2, j2, rfl, f2, g1, g2⟩
        have E7 := hide (Ext.trans E6.out e7)
        have hj : j1 = j2 := frg_many G12.out.1 G12.out.2 g1 g2
        subst hj
        have HSF := hide (sameFrag_true (F1.out.ext e7) f2)
        clear f2 g1 g2 e7 a0 a1 HFR F1
        go_wp2_with fail
        with_reducible refine HSF.out.mono ?_
        rintro e w8 ⟨rfl, e8⟩
        have E8 := hide (Ext.trans E7.out e8)
        clear e8
        go_wp2_with fail
        exact ⟨⟨k + 1, by omega, by go_num, E8⟩, by simp [intOf]; omega⟩
      · have HFK := hide (fun (W : World) (hW : Ext w W) => keyFragments_no (HSAT.out.ext hW) hF)
        have HFR := hide (fun (W : World) (hW : Ext w W) => refFragments_no (HSAT.out.ext hW) hF)
        generalize frgF n xs = fr at *
        have dr : (fr != fr) = false := by simp
        clear hF
        go_wp2_with fail
        with_reducible refine (HFK.out _ E5.out).mono ?_
        rintro e w6 ⟨rfl, e6⟩
        have E6 := hide (Ext.trans E5.out e6)
        clear e6 a0 a1 HFK
        obtain ⟨a0, a1⟩ := HCELL.out _ E6.out
        go_wp2_with fail
        with_reducible refine (HFR.out _ E6.out).mono ?_
        rintro e w7 ⟨rfl, e7⟩
        have E7 := hide (Ext.trans E6.out e7)
        have HSF := hide (sameFrag_true (FrsAt.nil w7 (fun _ => True)) (FrsAt.nil w7 (fun _ => True)))
        clear e7 a0 a1 HFR
        go_wp2_with fail
        with_reducible refine HSF.out.mono ?_
        rintro e w8 ⟨rfl, e8⟩
        have E8 := hide (Ext.trans E7.out e8)
        clear e8
        go_wp2_with fail
        exact ⟨⟨k + 1, by omega, by go_num, E8⟩, by simp [intOf]; omega⟩
    · obtain rfl : m = k := by omega
      have i1 : ¬ (m : Int) < (m : Int) := by omega
      go_wp2_with fail
      with_reducible refine (HAW.out _).mono ?_
      rintro e w4 ⟨rfl, e4⟩
      have E4 := hide (Ext.trans HX.out e4)
      clear e4
      go_wp2_with fail
      go_ret
      exact ⟨rfl, E4.out⟩
set_option maxRecDepth 100000 in
theorem boxFragmentsMatchSpec_lifted (os : Os) (started : os.Started) (H : Type) (enc : TypeId × Value → H) :
    ReturnsInHanded {} Try.checked os 7 .any (Rows.boxFragmentsMatchSpecSpec.pre6 enc Try.prog Try.f7 Rows.boxFragmentsMatchSpecRow.domain false) (Rows.boxFragmentsMatchSpecSpec.post enc Try.prog Try.f7 false true false false) := by
  refine returnsInHanded_of_change_sized (C := Try.checked) Try.own started (by kernel_rfl) Try.func7
    (ChangeSpec.witness6 (enc := enc) (C := Try.checked) false ⟨#[], #[.slice none 0 0, .int .i64 0], []⟩ 8 (by kernel_rfl) (by kernel_rfl) (by kernel_rfl) (by kernel_rfl)) ?_
  intro W base args ds gs before hval0 hW _ _ _
  have hval : ∀ (j : Nat) t v, Try.f7.params[j]? = some t → args[j]? = some v → Value.okWide Try.prog W .any base t v := hval0
  have hW' := hW
  obtain ⟨p, q, hA0, hV, rfl, _, _⟩ := hW
  have hA : DataW.TrodAll enc Try.prog W 0 (fun _ => true) true Try.f7.params.toList args.toList ds p := hA0
  rw [Try.params7] at hA hval
  obtain ⟨v0, v1, d0, d1, p0, p1, rfl, rfl, rfl, h0, h1⟩ := trodAll_two hA
  obtain ⟨A0, n0, c0, L0, rfl, hAt0⟩ := open_frags (hval 0 31 v0 rfl rfl) h0
  obtain ⟨x1, rfl, rfl, rfl, _⟩ := open_int Try.underlying3 (hval 1 3 v1 rfl rfl) h1
  refine (frmatch_any hAt0).mono fun e W' ⟨he, hE⟩ => ?_
  subst he
  exact ⟨_, rfl, law_post Try.laidOut Try.underlying4 hW' rfl rfl rfl (by kernel_rfl) hE⟩
theorem boxFragmentsMatchSpec_closed : joinedFacts Try.prog 7 Try.f7 Rows.boxFragmentsMatchSpecSpec Rows.boxFragmentsMatchSpecRow = true :=
  joined_of Try.laidOut Try.mapsRowed Try.plainKeys Try.stopsHeard Try.stopsNone Try.knobsNone Try.mayEnter Try.makeCut Try.liftsFinal rfl rfl rfl (by as_aux_lemma => kernel_rfl)
    (by as_aux_lemma => kernel_rfl) (by as_aux_lemma => kernel_rfl) (by as_aux_lemma => kernel_rfl) (by as_aux_lemma => kernel_rfl) (by as_aux_lemma => kernel_rfl) (by as_aux_lemma => kernel_rfl) (by as_aux_lemma => kernel_rfl) (by as_aux_lemma => kernel_rfl) (by as_aux_lemma => kernel_rfl) (by as_aux_lemma => kernel_rfl)
theorem boxFragmentsMatchSpec_holds : Rows.BoxFragmentsMatchSpecSaid :=
  OpenClaim.holds_of_wide 7 Try.f7 rfl rfl rfl rfl rfl rfl rfl ⟨rfl, rfl, rfl, rfl, rfl⟩ rfl rfl rfl rfl rfl (by as_aux_lemma => kernel_rfl) Try.func7 boxFragmentsMatchSpec_closed
    (of_decide_eq_true (by kernel_rfl)) (by unfold Func.isWrapper; first | (rw [if_pos (by decide +kernel)]; kernel_rfl) | (rw [if_neg (by decide +kernel)]; exact ⟨rfl, rfl⟩))
    (fun os started H enc _ => boxFragmentsMatchSpec_lifted os started H enc)
#print axioms boxFragmentsMatchSpec_holds
end Go.Proofs.Ytgnmnhlhiiehfaa
