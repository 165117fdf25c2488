/- Walk of the program's Touched. Conditions: none. -/
import Derived.Test.YtifmgngmkajahaaSchemesD
namespace Go.Proofs.Ytifmgngmkajahaa
open Go.RowKit

theorem own_ne {α β : Type} {w : World} {b1 b2 : Nat} {t1 t2 : TypeId} {s1 s2 : Nat} {n1 : α → List Value} {n2 : β → List Value} {v1 v2 : Value} {xs : List α} {ys : List β} (h1 : Own w b1 t1 s1 n1 v1 xs) (h2 : Own w b2 t2 s2 n2 v2 ys) (hne : t1 ≠ t2) :
    v1.ownBlock = none ∨ v1.ownBlock ≠ v2.ownBlock := by
  rcases h1.2 with ⟨rfl, _⟩ | ⟨g, cap, cur, rfl, _, hh, _⟩
  · exact .inl rfl
  · right
    rcases h2.2 with ⟨rfl, _⟩ | ⟨g', cap', cur', rfl, _, hh', _⟩
    · simp [Value.ownBlock]
    · intro e
      have e' : g = g' := by simpa [Value.ownBlock] using e
      subst e'
      rw [hh] at hh'
      injection hh' with hh'
      injection hh' with _ ht
      exact hne ht
theorem flat_take {α β : Type} (f : α → List β) (l : List α) (k : Nat) (d : α) (h : k < l.length) : (l.take (k + 1)).flatMap f = (l.take k).flatMap f ++ f (l.getD k d) := by
  rw [getD_take l k d h]; simp

set_option maxRecDepth 100000 in
set_option maxHeartbeats 2000000 in
theorem keyTouched_bad {A : Option Addr} {n c : Nat} {l : List (Int × Int)} {m cr sk z : Int} {w : World} (h : At w 2 e2 A n c l) (hF : touF m cr sk z l ≠ 0) :
    Calls Try.prog 44 #[schV m cr sk, .int .i64 z, .slice A n c] w (Gives 2 e2 w (touV m cr sk z l) (touF m cr sk z l)) := by
  have hV : touV m cr sk z l = [] := by unfold touV; rw [if_pos hF]
  have HV := hide hV
  have HC := hide (fun W => keyScheme_any m cr sk W)
  have HL := hide (fun W (hx : Ext w W) => keyList_any (h.ext hx) z)
  by_cases h1 : schF m cr sk = 0
  · by_cases h2 : z < 0 ∨ 100000 < z
    · have HQ : Hid (touF m cr sk z l = 1) := hide (by unfold touF; rw [if_neg (by omega), if_pos h2])
      rw [h1] at HC
      clear hF hV h1 h
      go_enter Try.func44, Try.ntmps44
      go_wp2_with (first | ((go_at_call 46; refine (HC.out _).mono ?_); rintro e w1 ⟨rfl, e1⟩; skip) | ((go_at_call 87; with_reducible refine (out_no ?_ _).mono ?_); (focus omega); rintro e w' ⟨rfl, rfl⟩) | ((go_at_call 87; with_reducible refine (out_yes ?_ _).mono ?_); (focus omega); rintro e w' ⟨rfl, rfl⟩))
      go_ret2
      exact gives_nil' HQ.out HV.out (Ext.trans (Ext.alloc _ _) e1)
    · have HQ : Hid (touF m cr sk z l = listF l z) := hide (by unfold touF; rw [if_neg (by omega), if_neg h2])
      have h3 : (listF l z != 0) = true := by rw [bne_iff_ne, ← HQ.out]; exact hF
      have h2' : 0 ≤ z ∧ z ≤ 100000 := by omega
      rw [h1] at HC
      generalize listF l z = r at *
      clear hF hV h1 h h2
      go_enter Try.func44, Try.ntmps44
      go_wp2_with (first | ((go_at_call 46; refine (HC.out _).mono ?_); rintro e w1 ⟨rfl, e1⟩; have E1 := hide (Ext.trans (Ext.alloc w (.cells #[.int .i64 m, .int .i64 cr, .int .i64 sk] 57)) e1); clear e1) | ((go_at_call 87; with_reducible refine (out_no ?_ _).mono ?_); (focus omega); rintro e w' ⟨rfl, rfl⟩) | ((go_at_call 87; with_reducible refine (out_yes ?_ _).mono ?_); (focus omega); rintro e w' ⟨rfl, rfl⟩) | ((go_at_call 102; refine (HL.out _ E1.out).mono ?_); rintro e w2 ⟨rfl, e2⟩; skip))
      go_ret2
      exact gives_nil' HQ.out HV.out (Ext.trans E1.out e2)
  · have HQ : Hid (touF m cr sk z l = schF m cr sk) := hide (by unfold touF; rw [if_pos h1])
    have h3 : (schF m cr sk != 0) = true := by rw [bne_iff_ne]; exact h1
    generalize schF m cr sk = r at *
    clear hF hV h1 h
    go_enter Try.func44, Try.ntmps44
    go_wp2_with (first | ((go_at_call 46; refine (HC.out _).mono ?_); rintro e w1 ⟨rfl, e1⟩; skip) | ((go_at_call 87; with_reducible refine (out_no ?_ _).mono ?_); (focus omega); rintro e w' ⟨rfl, rfl⟩) | ((go_at_call 87; with_reducible refine (out_yes ?_ _).mono ?_); (focus omega); rintro e w' ⟨rfl, rfl⟩))
    go_ret2
    exact gives_nil' HQ.out HV.out (Ext.trans (Ext.alloc _ _) e1)

/-- What is touched of so many parts. -/
def touK (m c s : Int) (P : List (Int × Int)) (k : Nat) : List (Int × Int) := ((P.take k).flatMap (spansOf m c s)).foldl addS []
theorem touK_succ {m c s : Int} {P : List (Int × Int)} {k : Nat} (h : k < P.length) : touK m c s P (k + 1) = (spansOf m c s (P.getD k (0, 0))).foldl addS (touK m c s P k) := by
  unfold touK
  rw [flat_take _ _ _ (0, 0) h, List.foldl_append]

set_option maxRecDepth 100000 in
set_option maxHeartbeats 8000000 in
theorem keyTouched_ok {A : Option Addr} {n c : Nat} {l : List (Int × Int)} {m cr sk z : Int} {w : World} (h : At w 2 e2 A n c l) (hF : touF m cr sk z l = 0) :
    Calls Try.prog 44 #[schV m cr sk, .int .i64 z, .slice A n c] w (Gives 2 e2 w (touV m cr sk z l) (touF m cr sk z l)) := by
  obtain ⟨hs0, hz, hl0⟩ := touF_zero hF
  obtain ⟨hsub, _⟩ := listF_zero hl0
  obtain ⟨hm, hm1, hc, hs, hc0⟩ := schF_zero hs0
  have HV : Hid (touV m cr sk z l = touL m cr sk l z) := hide (by unfold touV; rw [if_neg (by omega)])
  have HF := hide hF
  have HC := hide (fun W => keyScheme_any m cr sk W)
  have HL := hide (fun W (hx : Ext w W) => keyList_any (h.ext hx) z)
  have HP := hide (fun W (hx : Ext w W) => keyParts_any (h.ext hx) hsub z)
  have HMEM := hide (fun p hp => parts_mem (p := p) hl0 hz.1 hp)
  have HT : Hid (touK m cr sk (partsP l z) (partsP l z).length = touL m cr sk l z) := hide (by unfold touK touL touS; rw [List.take_length])
  rw [hs0] at HC
  rw [hl0] at HL
  generalize partsP l z = P at *
  clear hF hs0 hl0 hsub h hm1 hc0
  go_enter Try.func44, Try.ntmps44
  go_wp2_with (first | ((go_at_call 46; refine (HC.out _).mono ?_); rintro e w1 ⟨rfl, e1⟩; have E1 := hide (Ext.trans (Ext.alloc w (.cells #[.int .i64 m, .int .i64 cr, .int .i64 sk] 57)) e1); have F1 := hide e1; clear e1) | ((go_at_call 87; with_reducible refine (out_no ?_ _).mono ?_); (focus omega); rintro e w' ⟨rfl, rfl⟩) | ((go_at_call 87; with_reducible refine (out_yes ?_ _).mono ?_); (focus omega); rintro e w' ⟨rfl, rfl⟩) | ((go_at_call 102; refine (HL.out _ E1.out).mono ?_); rintro e w2 ⟨rfl, e2⟩; have E2 := hide (Ext.trans E1.out e2); have F2 := hide (Ext.trans F1.out e2); clear e2) | ((go_at_call 103; refine (HP.out _ E2.out).mono ?_); rintro e w3 ⟨Ap, np, cp, rfl, ap, hnp, e3, _⟩; have E3 := hide (Ext.trans E2.out e3); have F3 := hide (Ext.trans F2.out e3); have XP := hide ap; clear e3 ap))
  clear E1 E2 F1 F2
  have hlp := hide XP.out.len
  have B0 := (Blk.new w 57 #[.int .i64 m, .int .i64 cr, .int .i64 sk]).ext F3.out
  have HB0 := hide B0
  clear B0
  go_loopw [10, 32] (fun ro ri wr => ∃ (k q : Nat) (Ao : Option Addr) (co : Nat), k ≤ np ∧ ri = .int .i64 k ∧ ro = .slice Ao q co ∧ q ≤ 12501 * k ∧ Hid (Own wr w3.heap.size 33 2 e2 (.slice Ao q co) (touK m cr sk P k)) ∧ Hid (Ext w3 wr)) (fun _ ri _ => np - (intOf ri).toNat)
  case atStart => exact ⟨0, 0, none, 0, by omega, rfl, rfl, by omega, hide (Own.nil _ _ _ _ _), hide (Ext.refl _)⟩
  case round =>
    obtain ⟨k, q, Ao, co, hk, rfl, rfl, hq, HO, HX⟩ := hrel
    by_cases hlt : k < np
    · obtain ⟨b, off, rfl, _⟩ := XP.out.addr (by omega)
      obtain ⟨a1, a2⟩ := (XP.out.ext HX.out).pair hlt
      obtain ⟨p1, p2, p3⟩ := HMEM.out _ (getD_mem P k (0, 0) (by rw [hlp.out]; exact hlt))
      have HSUC := hide (touK_succ (m := m) (c := cr) (s := sk) (P := P) (k := k) (by rw [hlp.out]; exact hlt))
      generalize P.getD k (0, 0) = y at *
      obtain ⟨y0, y1⟩ := y
      simp only at a1 a2 p1 p2 p3
      have BB := HB0.out.ext HX.out
      have k0 := BB.cell 0; have k1 := BB.cell 1; have k2 := BB.cell 2
      simp only [List.getElem?_toArray, List.getElem?_cons_zero, List.getElem?_cons_succ] at k0 k1 k2
      have hBlt := BB.lt
      have E4 := hide (Ext.trans HX.out (Ext.alloc wr (.cells #[.int .i64 y0, .int .i64 y1] 33)))
      have O4 := hide (HO.out.ext (Ext.alloc wr (.cells #[.int .i64 y0, .int .i64 y1] 33)))
      have z4 := HX.out.size
      rcases hm with rfl | rfl
      · have HSP : Hid (touK 1 cr sk P (k + 1) = addS (touK 1 cr sk P k) (y0, y1)) := hide (by rw [HSUC.out]; rfl)
        clear BB HO
        go_wp2_with fail
        refine (addSpan_any O4.out (by simp; omega) (by omega) y0 y1).mono ?_
        rintro e w5 ⟨A5, m5, c5, rfl, o5, g5, s5⟩
        have hl5 := o5.len len_e2
        have hl6 := length_addS (touK 1 cr sk P k) (y0, y1)
        have hl7 := O4.out.len len_e2
        have hm5 : m5 ≤ 12501 * (k + 1) := by omega
        rw [← HSP.out] at o5
        have O5 := hide o5
        have E5 := hide (O4.out.below E4.out g5 (Nat.le_refl _))
        clear o5 g5 s5 hl5 hl6 hl7
        go_wp2
        go_roundw
        case rel =>
          first
            | exact ⟨k + 1, m5, A5, c5, by omega, by go_num, rfl, hm5, O5, E5⟩
            | ((repeat apply Exists.intro); exact ⟨⟨k + 1, m5, A5, c5, by omega, by go_num, rfl, hm5, O5, E5⟩, rfl⟩)
        case measure => simp [intOf]; omega
      · have HSP : Hid (touK 2 cr sk P (k + 1) = ((blkN cr sk y0 ((y1 - y0) / 8).toNat).map fun a => (a, a + 8)).foldl addS (touK 2 cr sk P k)) := hide (by rw [HSUC.out]; rfl)
        have HBL := hide (blocks_any (wr.alloc (.cells #[.int .i64 y0, .int .i64 y1] 33)) 2 cr sk y0 y1 hc hs p1 p2 (by omega))
        have hNb : ((y1 - y0) / 8).toNat ≤ 12500 := by omega
        generalize ((y1 - y0) / 8).toNat = N at *
        have hlb := length_blkN cr sk y0 N
        have HMB := hide (fun a (ha : a ∈ blkN cr sk y0 N) => show 0 ≤ a ∧ a ≤ 200000 by
          obtain ⟨i, h1, h2, h3⟩ := blkN_mem.1 ha
          omega)
        obtain ⟨wo, hwo⟩ : ∃ wo, wo = wr := ⟨_, rfl⟩
        subst hwo
        clear BB HO
        go_wp2_with fail
        refine HBL.out.mono ?_
        rintro e w5 ⟨Ab, nb, kb, rfl, ob, e5⟩
        have hnb := ob.len len64
        have OB := hide ob
        have O5 := hide (O4.out.ext e5)
        have E5 := hide (Ext.trans E4.out e5)
        have HNB := hide hnb
        have hnb2 : nb ≤ 12500 := by omega
        clear ob e5 hnb O4 E4
        go_wp2_with fail
        go_loopw [10, 46] (fun ro2 rj wi => ∃ (j r : Nat) (Ai : Option Addr) (ci : Nat), j ≤ nb ∧ rj = .int .i64 j ∧ ro2 = .slice Ai r ci ∧ r ≤ 12501 * k + j ∧ Hid (Own wi w3.heap.size 33 2 e2 (.slice Ai r ci) ((((blkN cr sk y0 N).take j).map fun a => (a, a + 8)).foldl addS (touK 2 cr sk P k))) ∧ Hid (Own wi (wo.heap.size + 1) 3 1 e64 (.slice Ab nb kb) (blkN cr sk y0 N)) ∧ Hid (Ext w3 wi)) (fun _ rj _ => nb - (intOf rj).toNat)
        case atStart => exact ⟨0, q, Ao, co, by omega, rfl, rfl, by omega, hide (by simpa using O5.out), hide (by simpa using OB.out), E5⟩
        case round =>
          obtain ⟨j, r, Ai, ci, hj, rfl, rfl, hr, HOi, HBi, HXi⟩ := hrel
          by_cases hlj : j < nb
          · obtain ⟨bb, offb, hAb, _⟩ := (HBi.out.atS len64).addr (by omega)
            subst hAb
            have a3 := (HBi.out.atS len64).num hlj
            obtain ⟨q1, q2⟩ := HMB.out _ (getD_mem (blkN cr sk y0 N) j 0 (by rw [HNB.out]; exact hlj))
            have HTK : Hid ((((blkN cr sk y0 N).take (j + 1)).map fun a => (a, a + 8)).foldl addS (touK 2 cr sk P k) = addS ((((blkN cr sk y0 N).take j).map fun a => (a, a + 8)).foldl addS (touK 2 cr sk P k)) ((blkN cr sk y0 N).getD j 0, (blkN cr sk y0 N).getD j 0 + 8)) := hide (by
              rw [getD_take _ j 0 (by rw [HNB.out]; exact hlj)]; simp)
            generalize (blkN cr sk y0 N).getD j 0 = u at *
            have z6 := HXi.out.size
            go_wp2_with fail
            refine (addSpan_any HOi.out (by omega) (by omega) u (u + 8)).mono ?_
            rintro e w7 ⟨A7, m7, c7, rfl, o7, g7, s7⟩
            have hl5 := o7.len len_e2
            have hl6 := length_addS ((((blkN cr sk y0 N).take j).map fun a => (a, a + 8)).foldl addS (touK 2 cr sk P k)) (u, u + 8)
            have hl7 := HOi.out.len len_e2
            have hm7 : m7 ≤ 12501 * k + (j + 1) := by omega
            rw [← HTK.out] at o7
            have O7 := hide o7
            have B7 := hide (HBi.out.kept g7 (own_ne HBi.out HOi.out (by decide)))
            have E7 := hide (HOi.out.below HXi.out g7 (Nat.le_refl _))
            clear o7 g7 s7 hl5 hl6 hl7 HTK
            go_wp2
            go_roundw
            case rel =>
              first
                | exact ⟨j + 1, m7, A7, c7, by omega, by go_num, rfl, hm7, O7, B7, E7⟩
                | ((repeat apply Exists.intro); exact ⟨⟨j + 1, m7, A7, c7, by omega, by go_num, rfl, hm7, O7, B7, E7⟩, rfl⟩)
            case measure => simp [intOf]; omega
          · have hfull : (((blkN cr sk y0 N).take j).map fun a => (a, a + 8)).foldl addS (touK 2 cr sk P k) = touK 2 cr sk P (k + 1) := by
              rw [List.take_of_length_le (by have := HNB.out; omega), HSP.out]
            have O8 := hide HOi.out
            rw [hfull] at O8
            clear hfull HOi HBi
            go_wp2
            go_roundw
            case rel =>
              first
                | exact ⟨k + 1, r, Ai, ci, by omega, by go_num, rfl, by omega, O8, HXi⟩
                | ((repeat apply Exists.intro); exact ⟨⟨k + 1, r, Ai, ci, by omega, by go_num, rfl, by omega, O8, HXi⟩, rfl⟩)
            case measure => simp [intOf]; omega
    · have hkn : k = np := by omega
      have HQ : Hid (touK m cr sk P k = touV m cr sk z l) := hide (by rw [HV.out, ← HT.out, hlp.out, hkn])
      have HW := hide (HO.out.atS len_e2)
      clear hkn
      go_wp2
      go_ret2
      exact gives_at HF.out HQ.out HW.out (Ext.trans E3.out HX.out)
end Go.Proofs.Ytifmgngmkajahaa
