/- Walks: Fewer (both). Conditions: none. -/
import Derived.Test.YtifmgngmkajahaaSubsA
namespace Go.Proofs.Ytifmgngmkajahaa
open Go.RowKit

/-- An element is joined with the last one, where that protects nothing. -/
def fewStep (out : List (Int × Int)) (s : Int × Int) : List (Int × Int) :=
  if out ≠ [] ∧ (out.getD (out.length - 1) (0, 0)).2 = 0 then out.set (out.length - 1) ((out.getD (out.length - 1) (0, 0)).1 + s.1, s.2) else out ++ [s]
def fewP (l : List (Int × Int)) : List (Int × Int) := l.foldl fewStep []
/-- The document's step: the clear bytes are kept back. -/
def fewR : List (Int × Int) → List (Int × Int) × Int
  | l => l.foldl (fun (st : List (Int × Int) × Int) s => if 0 < s.2 then (st.1 ++ [(st.2 + s.1, s.2)], 0) else (st.1, st.2 + s.1)) ([], 0)
def fewE (st : List (Int × Int) × Int) : List (Int × Int) := if 0 < st.2 then st.1 ++ [(st.2, 0)] else st.1
theorem foldl_take {α β : Type} (f : β → α → β) (b : β) (l : List α) (k : Nat) (d : α) (h : k < l.length) : (l.take (k + 1)).foldl f b = f ((l.take k).foldl f b) (l.getD k d) := by
  rw [getD_take l k d h, List.foldl_append]; rfl
theorem last_snoc (R : List (Int × Int)) (s : Int × Int) : (R ++ [s]).getD ((R ++ [s]).length - 1) (0, 0) = s := by simp [List.getD]
/-- Both keep the same, and the clear bytes are few. -/
theorem few_same {l : List (Int × Int)} (h : ∀ j, j < l.length → subEl l j = 0) : ∀ k, k ≤ l.length → fewP (l.take k) = fewE (fewR (l.take k)) ∧ (∀ x ∈ (fewR (l.take k)).1, 0 < x.2) ∧ 0 ≤ (fewR (l.take k)).2 ∧ (fewR (l.take k)).2 ≤ 100000 * (k : Int) ∧ (fewR (l.take k)).1.length ≤ k
  | 0, _ => by simp [fewP, fewR, fewE]
  | k + 1, hk => by
    obtain ⟨h1, h2, h3, h4, h5⟩ := few_same h k (by omega)
    obtain ⟨e1, e2, e3⟩ := subEl_zero (h k (by omega))
    unfold fewP fewR at *
    rw [foldl_take _ _ _ _ (0, 0) (by omega), foldl_take _ _ _ _ (0, 0) (by omega), h1]
    generalize List.foldl _ ([], (0 : Int)) (l.take k) = st at *
    generalize l.getD k (0, 0) = s at *
    obtain ⟨out, cl⟩ := st
    obtain ⟨s0, s1⟩ := s
    simp only at h2 h3 h4 h5 e1 e2 e3 ⊢
    have hcl : ∀ t : Int × Int, fewStep (fewE (out, cl)) t = if 0 < cl then out ++ [(cl + t.1, t.2)] else out ++ [t] := by
      intro t
      unfold fewE
      by_cases hc : 0 < cl
      · simp only [hc, if_true]
        unfold fewStep
        rw [last_snoc, if_pos ⟨by simp, rfl⟩]
        simp
      · simp only [hc, if_false]
        unfold fewStep
        rw [if_neg]
        rintro ⟨hne, h0⟩
        have hlen : 0 < out.length := List.length_pos_iff.2 hne
        have := h2 _ (getD_mem out (out.length - 1) (0, 0) (by omega))
        omega
    rw [hcl]
    by_cases hs : 0 < s1
    · simp only [hs, if_true]
      refine ⟨?_, ?_, by omega, by omega, by simp; omega⟩
      · unfold fewE
        simp only [Int.lt_irrefl, if_false]
        split
        · rfl
        · rw [show cl = 0 by omega, Int.zero_add]
      · intro x hx
        rcases List.mem_append.1 hx with h | h
        · exact h2 x h
        · simp at h; subst h; exact hs
    · have hs1 : s1 = 0 := by omega
      have hs0 : 0 < s0 := by omega
      simp only [hs, if_false]
      refine ⟨?_, h2, by omega, by omega, by omega⟩
      unfold fewE
      rw [if_pos (show 0 < cl + s0 by omega)]
      split
      · rw [hs1]
      · rw [hs1, show cl = 0 by omega, Int.zero_add]
def fewL (l : List (Int × Int)) : List (Int × Int) := if subsF l ≠ 0 then [] else fewP l

set_option maxRecDepth 100000 in
set_option maxHeartbeats 4000000 in
theorem refFewer_any {A : Option Addr} {n c : Nat} {l : List (Int × Int)} {w : World} (h : At w 2 e2 A n c l) :
    Calls Try.prog 38 #[.slice A n c] w (Gives 2 e2 w (fewL l) (subsF l)) := by
  obtain ⟨i0, hi0, hz0, hz1, hz2⟩ := info_parts Try.info49
  have hb := h.bound
  have hl := hide h.len
  have HC := hide (fun W (hx : Ext w W) => refSubs_any (h.ext hx))
  have H := hide h
  clear h
  by_cases hz : subsF l = 0
  rotate_left
  · have HL : Hid (fewL l = []) := hide (by unfold fewL; rw [if_pos hz])
    have hb2 : (subsF l != 0) = true := by rw [bne_iff_ne]; exact hz
    generalize subsF l = r at *
    clear hz
    go_enter Try.func38, Try.ntmps38
    go_wp2_with (first | ((go_at_call 94; refine (HC.out _ (Ext.refl _)).mono ?_); rintro e w1 ⟨rfl, e1⟩))
    go_ret2
    exact gives_nil' rfl HL.out e1
  obtain ⟨hn5, hall⟩ := subsF_zero hz
  have hn : n ≤ 500 := by have := hl.out; omega
  have HALL := hide hall
  have HL : Hid (fewL l = fewE (fewR l)) := hide (by
    have := (few_same hall l.length (Nat.le_refl _)).1
    rw [List.take_length] at this
    unfold fewL; rw [if_neg (by omega), this])
  have HS := hide (few_same hall)
  rw [hz] at HC ⊢
  clear hz hall hn5
  go_enter Try.func38, Try.ntmps38
  go_wp2_with (first | ((go_at_call 94; refine (HC.out _ (Ext.refl _)).mono ?_); rintro e w1 ⟨rfl, e1⟩; have E1 := hide e1; clear e1))
  go_loopw [5, 6, 16] (fun ro rc ri wr => ∃ (k : Nat) (cl : Int), k ≤ n ∧ ri = .int .i64 k ∧ rc = .int .i64 cl ∧ 0 ≤ cl ∧ cl ≤ 100000 * (k : Int) ∧ Hid (cl = (fewR (l.take k)).2) ∧ Hid (Own wr w.heap.size 49 2 e2 ro (fewR (l.take k)).1) ∧ Hid (Ext w wr)) (fun _ _ ri _ => n - (intOf ri).toNat)
  case atStart => exact ⟨0, 0, by omega, rfl, rfl, by omega, by omega, hide rfl, hide (Own.nil _ _ _ _ _), E1⟩
  case round =>
    obtain ⟨k, cl, hk, rfl, rfl, hc0, hc1, HCL, HO, HX⟩ := hrel
    have hlen := hl.out
    by_cases hlt : k < n
    · obtain ⟨b, off, rfl, _⟩ := H.out.addr (by omega)
      obtain ⟨a1, a2⟩ := (H.out.ext HX.out).pair hlt
      obtain ⟨e1, e2', e3⟩ := subEl_zero (HALL.out k (by omega))
      have h5 := (HS.out k (by omega)).2.2.2.2
      have hst : fewR (l.take (k + 1)) = if 0 < (l.getD k (0, 0)).2 then ((fewR (l.take k)).1 ++ [((fewR (l.take k)).2 + (l.getD k (0, 0)).1, (l.getD k (0, 0)).2)], 0) else ((fewR (l.take k)).1, (fewR (l.take k)).2 + (l.getD k (0, 0)).1) := by
        unfold fewR; rw [foldl_take _ _ _ _ (0, 0) (by omega)]
      rw [← HCL.out] at hst
      have HST := hide hst
      generalize (l.getD k (0, 0)).1 = y0 at *
      generalize (l.getD k (0, 0)).2 = y1 at *
      have E2 := hide (ext_alloc HX.out (.cells #[.int .i64 y0, .int .i64 y1] 49))
      have z2 := E2.out.size
      have O2 := hide (HO.out.ext (Ext.alloc wr (.cells #[.int .i64 y0, .int .i64 y1] 49)))
      clear hst hlen HO
      by_cases hs : 0 < y1
      · have hw : fewR (l.take (k + 1)) = ((fewR (l.take k)).1 ++ [(cl + y0, y1)], 0) := by rw [HST.out, if_pos hs]
        have HW := hide hw
        generalize (fewR (l.take k)).1 = out at *
        clear HST hw HCL
        have A7 := hide (At.pair1 (wr.alloc (.cells #[.int .i64 y0, .int .i64 y1] 49)) (cl + y0) y1 49)
        have O7 := hide (O2.out.ext (Ext.alloc _ (.cells #[.int .i64 (cl + y0), .int .i64 y1] 49)))
        have E7 := hide (ext_alloc E2.out (.cells #[.int .i64 (cl + y0), .int .i64 y1] 49))
        have z7 := E7.out.size
        have h5' := hide h5
        clear O2 h5
        simp only [World.size_alloc] at A7
        go_wp2_with (at_builtin; refine wpList_append_at _ rfl (.tmp 27) (.tmp 32) 44 rfl w.heap.size 49 i0 _ 16 Try.underlying44 hi0 hz0 hz1 hz2 rfl (by omega) len_e2 one_e2 _ out rfl O7.out (some ⟨wr.heap.size + 1, 0, none⟩) 1 1 [(cl + y0, y1)] rfl A7.out ?d1 ?d2 ?d3 ?_)
        case d1 => have := h5'.out; unfold maxLen; omega
        case d2 => have := h5'.out; omega
        case d3 => exact z7
        intro v8 w8 o8 g8 _ _
        have O8 : Hid (Own w8 w.heap.size 49 2 e2 v8 (fewR (l.take (k + 1))).1) := hide (by rw [HW.out]; exact o8)
        have C8 : Hid (0 = (fewR (l.take (k + 1))).2) := hide (by rw [HW.out])
        have E8 : Hid (Ext w w8) := hide (O7.out.below E7.out g8 (Nat.le_refl _))
        clear o8 g8 O7 E7 z7 A7
        go_wp2
        go_roundw
        case rel =>
          first
            | exact ⟨k + 1, 0, by omega, by go_num, rfl, by omega, by omega, C8, O8, E8⟩
            | ((repeat apply Exists.intro); exact ⟨⟨k + 1, 0, by omega, by go_num, rfl, by omega, by omega, C8, O8, E8⟩, rfl⟩)
        case measure => simp [intOf]; omega
      · have hw : fewR (l.take (k + 1)) = ((fewR (l.take k)).1, cl + y0) := by rw [HST.out, if_neg hs]
        have C8 : Hid (cl + y0 = (fewR (l.take (k + 1))).2) := hide (by rw [hw])
        have O8 : Hid (Own (wr.alloc (.cells #[.int .i64 y0, .int .i64 y1] 49)) w.heap.size 49 2 e2 u5 (fewR (l.take (k + 1))).1) := hide (by rw [hw]; exact O2.out)
        clear HST hw HCL O2 h5
        go_wp2
        go_roundw
        case rel =>
          first
            | exact ⟨k + 1, cl + y0, by omega, by go_num, rfl, by omega, by omega, C8, O8, E2⟩
            | ((repeat apply Exists.intro); exact ⟨⟨k + 1, cl + y0, by omega, by go_num, rfl, by omega, by omega, C8, O8, E2⟩, rfl⟩)
        case measure => simp [intOf]; omega
    · have hst : fewR (l.take k) = fewR l := by rw [List.take_of_length_le (by omega)]
      have h5 := (HS.out k (by omega)).2.2.2.2
      rw [hst] at h5 HO HCL
      have h5' := hide h5
      obtain ⟨A9, c9, hv9, a9⟩ := HO.out.at_ len_e2
      have HV := hide a9
      by_cases hc : 0 < cl
      · have hf : Hid (fewL l = (fewR l).1 ++ [(cl, 0)]) := hide (by rw [HL.out]; unfold fewE; rw [← HCL.out, if_pos hc])
        have A7 := hide (At.pair1 wr cl 0 49)
        have O7 := hide (HO.out.ext (Ext.alloc _ (.cells #[.int .i64 cl, .int .i64 0] 49)))
        have E7 := hide (ext_alloc HX.out (.cells #[.int .i64 cl, .int .i64 0] 49))
        have z7 := E7.out.size
        generalize (fewR l).1 = out at *
        clear hst h5 a9 hv9 HV HCL HO
        go_wp2_with (at_builtin; refine wpList_append_at _ rfl (.tmp 37) (.tmp 40) 44 rfl w.heap.size 49 i0 _ 16 Try.underlying44 hi0 hz0 hz1 hz2 rfl (by omega) len_e2 one_e2 _ out rfl O7.out (some ⟨wr.heap.size, 0, none⟩) 1 1 [(cl, 0)] rfl A7.out ?d1 ?d2 ?d3 ?_)
        case d1 => have := h5'.out; unfold maxLen; omega
        case d2 => have := h5'.out; omega
        case d3 => exact z7
        intro v8 w8 o8 g8 _ _
        have E8 : Hid (Ext w w8) := hide (O7.out.below E7.out g8 (Nat.le_refl _))
        obtain ⟨A8, c8, hv8, a8⟩ := o8.at_ len_e2
        subst hv8
        have HV := hide a8
        clear o8 g8 O7 E7 z7 A7 a8
        go_wp2
        go_ret2
        exact gives_at rfl hf.out.symm HV.out E8.out
      · have hf : Hid (fewL l = (fewR l).1) := hide (by rw [HL.out]; unfold fewE; rw [← HCL.out, if_neg hc])
        subst hv9
        generalize (fewR l).1 = out at *
        clear hst h5 a9 HCL HO
        go_wp2
        go_ret2
        exact gives_at rfl hf.out.symm HV.out HX.out

theorem few_bd {l : List (Int × Int)} (h : ∀ j, j < l.length → subEl l j = 0) : ∀ k, k ≤ l.length → (fewP (l.take k)).length ≤ k ∧ ∀ x ∈ fewP (l.take k), 0 ≤ x.1 ∧ x.1 ≤ 100000 * (k : Int)
  | 0, _ => by simp [fewP]
  | k + 1, hk => by
    obtain ⟨h1, h2⟩ := few_bd h k (by omega)
    obtain ⟨e1, e2, e3⟩ := subEl_zero (h k (by omega))
    unfold fewP at *
    rw [foldl_take _ _ _ _ (0, 0) (by omega)]
    generalize List.foldl _ [] (l.take k) = out at *
    generalize l.getD k (0, 0) = s at *
    unfold fewStep
    split
    · rename_i hc
      have hlen : 0 < out.length := List.length_pos_iff.2 hc.1
      have hm := h2 _ (getD_mem out (out.length - 1) (0, 0) (by omega))
      refine ⟨by simp; omega, fun x hx => ?_⟩
      rcases List.mem_or_eq_of_mem_set hx with h | h
      · have := h2 x h; omega
      · subst h; simp only; omega
    · refine ⟨by simp; omega, fun x hx => ?_⟩
      rcases List.mem_append.1 hx with h | h
      · have := h2 x h; omega
      · simp at h; subst h; omega

theorem genThen {K : Act → World → Prop} {Q : Exit → Act → World → Prop} {e : Exit} {a : Act} {w : World} (h : ∀ W, W = w → Exit.then K Q e a W) : Exit.then K Q e a w := h w rfl
set_option maxRecDepth 100000 in
set_option maxHeartbeats 4000000 in
theorem keyFewer_any {A : Option Addr} {n c : Nat} {l : List (Int × Int)} {w : World} (h : At w 2 e2 A n c l) :
    Calls Try.prog 37 #[.slice A n c] w (Gives 2 e2 w (fewL l) (subsF l)) := by
  obtain ⟨i0, hi0, hz0, hz1, hz2⟩ := info_parts Try.info49
  have hb := h.bound
  have hl := hide h.len
  have HC := hide (fun W (hx : Ext w W) => keySubs_any (h.ext hx))
  have H := hide h
  clear h
  by_cases hz : subsF l = 0
  rotate_left
  · have HL : Hid (fewL l = []) := hide (by unfold fewL; rw [if_pos hz])
    have hb2 : (subsF l != 0) = true := by rw [bne_iff_ne]; exact hz
    generalize subsF l = r at *
    clear hz
    go_enter Try.func37, Try.ntmps37
    go_wp2_with (first | ((go_at_call 93; refine (HC.out _ (Ext.refl _)).mono ?_); rintro e w1 ⟨rfl, e1⟩))
    go_ret2
    exact gives_nil' rfl HL.out e1
  obtain ⟨hn5, hall⟩ := subsF_zero hz
  have hn : n ≤ 500 := by have := hl.out; omega
  have HL : Hid (fewL l = fewP l) := hide (by unfold fewL; rw [if_neg (by omega)])
  have HALL := hide hall
  have HS := hide (few_bd hall)
  rw [hz] at HC ⊢
  clear hz hall hn5
  go_enter Try.func37, Try.ntmps37
  go_wp2_with (first | ((go_at_call 93; refine (HC.out _ (Ext.refl _)).mono ?_); rintro e w1 ⟨rfl, e1⟩; have E1 := hide e1; clear e1))
  go_loopw [5, 16] (fun ro ri wr => ∃ (k m : Nat) (Ao : Option Addr) (co : Nat), k ≤ n ∧ ri = .int .i64 k ∧ ro = .slice Ao m co ∧ m ≤ k ∧ Hid (m = (fewP (l.take k)).length) ∧ Hid (Own wr w.heap.size 49 2 e2 (.slice Ao m co) (fewP (l.take k))) ∧ Hid (Ext w wr)) (fun _ ri _ => n - (intOf ri).toNat)
  case atStart => exact ⟨0, 0, none, 0, by omega, rfl, rfl, by omega, hide rfl, hide (Own.nil _ _ _ _ _), E1⟩
  case round =>
    obtain ⟨k, m, Ao, co, hk, rfl, rfl, hmk, HM, HO, HX⟩ := hrel
    have hlen := hl.out
    by_cases hlt : k < n
    · obtain ⟨b, off, rfl, _⟩ := H.out.addr (by omega)
      obtain ⟨a1, a2⟩ := (H.out.ext HX.out).pair hlt
      obtain ⟨e1, e2', e3⟩ := subEl_zero (HALL.out k (by omega))
      have hst : fewP (l.take (k + 1)) = fewStep (fewP (l.take k)) (l.getD k (0, 0)) := by unfold fewP; rw [foldl_take _ _ _ _ (0, 0) (by omega)]
      have h5 := HS.out k (by omega)
      have h6 := HS.out (k + 1) (by omega)
      have hsz : (fewP (l.take (k + 1))).length ≤ k + 1 := h6.1
      have hgd : l.getD k (0, 0) = ((l.getD k (0, 0)).1, (l.getD k (0, 0)).2) := rfl
      have HST := hide hst
      have HGD := hide hgd
      generalize (l.getD k (0, 0)).1 = y0 at *
      generalize (l.getD k (0, 0)).2 = y1 at *
      generalize fewP (l.take k) = xs at *
      have E2 := hide (ext_alloc HX.out (.cells #[.int .i64 y0, .int .i64 y1] 49))
      have z2 := E2.out.size
      have O2 := hide (HO.out.ext (Ext.alloc wr (.cells #[.int .i64 y0, .int .i64 y1] 49)))
      have H5 := hide h5; have H6 := hide h6
      clear hst hlen HO h5 h6 hgd
      have i2 : IntKind.i64.wrap ((m : Int) - 1) = (m : Int) - 1 := by rw [IntKind.wrap_i64]; omega
      by_cases hc : 0 < m ∧ (xs.getD (m - 1) (0, 0)).2 = 0
      · obtain ⟨hm0, hc0⟩ := hc
        obtain ⟨g, rfl, hg1, hg2⟩ := O2.out.where2 hm0
        obtain ⟨b1, b2⟩ := (O2.out.atS len_e2).pair (k := m - 1) (by omega)
        have hfz := O2.out.frozen2
        simp only [Nat.zero_add] at b1 b2
        rw [hc0] at b2
        have i3 : ((m : Int) - 1).toNat = m - 1 := by omega
        have i4 : 0 ≤ (m : Int) - 1 := by omega
        have i5 : (m : Int) - 1 < (m : Int) := by omega
        have i6 : 1 ≤ (m : Int) := by omega
        have hbd := H5.out.2 _ (getD_mem xs (m - 1) (0, 0) (by rw [← HM.out]; omega))
        have hw : fewP (l.take (k + 1)) = xs.set (m - 1) ((xs.getD (m - 1) (0, 0)).1 + y0, y1) := by
          rw [HST.out]; unfold fewStep
          rw [← HM.out, if_pos ⟨by intro e; rw [e] at HM; have := HM.out; simp at this; omega, hc0⟩, HGD.out]
        generalize (xs.getD (m - 1) (0, 0)).1 = t0 at *
        have HW := hide hw
        clear hw hc0
        go_wp2_with fail
        go_region
        refine genThen fun W7 h7 => ?_
        have hset := hide (O2.out.set2 (m - 1) (t0 + y0) y1 (by omega))
        have O7 : Hid (Own W7 w.heap.size 49 2 e2 (.slice (some ⟨g, 0, none⟩) m co) (fewP (l.take (k + 1)))) := hide (by rw [h7, HW.out]; exact hset.out)
        have E7 : Hid (Ext w W7) := hide (by rw [h7]; exact Below.drew (Below.setCell (Below.setCell E2.out (by simp; omega) _) (by simp; omega) _))
        have M7 : Hid (m = (fewP (l.take (k + 1))).length) := hide (by rw [HW.out, List.length_set]; exact HM.out)
        clear h7 hset O2 E2 b1 b2 hfz HW
        go_wp2
        go_roundw
        case rel =>
          first
            | exact ⟨k + 1, m, _, co, by omega, by go_num, rfl, by omega, M7, O7, E7⟩
            | ((repeat apply Exists.intro); exact ⟨⟨k + 1, m, _, co, by omega, by go_num, rfl, by omega, M7, O7, E7⟩, rfl⟩)
        case measure => simp [intOf]; omega
      · have hw : fewP (l.take (k + 1)) = xs ++ [(y0, y1)] := by
          rw [HST.out]; unfold fewStep
          rw [← HM.out, if_neg, HGD.out]
          rintro ⟨hne, h0⟩
          exact hc ⟨by rw [HM.out]; exact List.length_pos_iff.2 hne, h0⟩
        have HW := hide hw
        have A7 := hide (At.pair1 (wr.alloc (.cells #[.int .i64 y0, .int .i64 y1] 49)) y0 y1 49)
        have O7 := hide (O2.out.ext (Ext.alloc _ (.cells #[.int .i64 y0, .int .i64 y1] 49)))
        have E7 := hide (ext_alloc E2.out (.cells #[.int .i64 y0, .int .i64 y1] 49))
        have z7 := E7.out.size
        simp only [World.size_alloc] at A7
        have M7 : Hid (m + 1 = (fewP (l.take (k + 1))).length) := hide (by rw [HW.out, List.length_append, ← HM.out]; rfl)
        have HMX := hide (show xs.length = m from HM.out.symm)
        by_cases hm0 : 0 < m
        · obtain ⟨g, rfl, hg1, hg2⟩ := O2.out.where2 hm0
          obtain ⟨b1, b2⟩ := (O2.out.atS len_e2).pair (k := m - 1) (by omega)
          simp only [Nat.zero_add] at b1 b2
          have hne0 : ((xs.getD (m - 1) (0, 0)).2 == 0) = false := by simp; intro h0; exact hc ⟨hm0, h0⟩
          generalize (xs.getD (m - 1) (0, 0)).2 = t1 at *
          have i3 : ((m : Int) - 1).toNat = m - 1 := by omega
          have i4 : 0 ≤ (m : Int) - 1 := by omega
          have i5 : (m : Int) - 1 < (m : Int) := by omega
          have i6 : 1 ≤ (m : Int) := by omega
          clear hw hc
          go_wp2_with (at_builtin; refine wpList_append_at _ rfl (.tmp 47) (.tmp 49) 44 rfl w.heap.size 49 i0 _ 16 Try.underlying44 hi0 hz0 hz1 hz2 rfl (by omega) len_e2 one_e2 _ xs rfl O7.out (some ⟨wr.heap.size + 1, 0, none⟩) 1 1 [(y0, y1)] rfl A7.out ?d1 ?d2 ?d3 ?_)
          case d1 => rw [HMX.out]; unfold maxLen; omega
          case d2 => rw [HMX.out]; omega
          case d3 => exact z7
          intro v8 w8 o8 g8 _ _
          have E8 : Hid (Ext w w8) := hide (O7.out.below E7.out g8 (Nat.le_refl _))
          rw [← HW.out] at o8
          obtain ⟨A8, c8, hv8, a8⟩ := o8.at_ len_e2
          rw [← M7.out] at hv8
          subst hv8
          have O8 := hide o8
          clear o8 g8 O7 E7 z7 A7 a8
          go_wp2
          go_roundw
          case rel =>
            first
              | exact ⟨k + 1, m + 1, A8, c8, by omega, by go_num, rfl, by omega, M7, O8, E8⟩
              | ((repeat apply Exists.intro); exact ⟨⟨k + 1, m + 1, A8, c8, by omega, by go_num, rfl, by omega, M7, O8, E8⟩, rfl⟩)
          case measure => simp [intOf]; omega
        · obtain rfl : m = 0 := by omega
          clear hw hc
          go_wp2_with (at_builtin; refine wpList_append_at _ rfl (.tmp 47) (.tmp 49) 44 rfl w.heap.size 49 i0 _ 16 Try.underlying44 hi0 hz0 hz1 hz2 rfl (by omega) len_e2 one_e2 _ xs rfl O7.out (some ⟨wr.heap.size + 1, 0, none⟩) 1 1 [(y0, y1)] rfl A7.out ?d1 ?d2 ?d3 ?_)
          case d1 => rw [HMX.out]; unfold maxLen; omega
          case d2 => rw [HMX.out]; omega
          case d3 => exact z7
          intro v8 w8 o8 g8 _ _
          have E8 : Hid (Ext w w8) := hide (O7.out.below E7.out g8 (Nat.le_refl _))
          rw [← HW.out] at o8
          obtain ⟨A8, c8, hv8, a8⟩ := o8.at_ len_e2
          rw [← M7.out] at hv8
          subst hv8
          have O8 := hide o8
          clear o8 g8 O7 E7 z7 A7 a8
          go_wp2
          go_roundw
          case rel =>
            first
              | exact ⟨k + 1, 0 + 1, A8, c8, by omega, by go_num, rfl, by omega, M7, O8, E8⟩
              | ((repeat apply Exists.intro); exact ⟨⟨k + 1, 0 + 1, A8, c8, by omega, by go_num, rfl, by omega, M7, O8, E8⟩, rfl⟩)
          case measure => simp [intOf]; omega
    · have hst : fewP (l.take k) = fewP l := by rw [List.take_of_length_le (by omega)]
      have HV := hide (HO.out.atS len_e2)
      have HQ : Hid (fewP (l.take k) = fewL l) := hide (by rw [hst, HL.out])
      clear hst
      go_wp2
      go_ret2
      exact gives_at rfl HQ.out HV.out HX.out
end Go.Proofs.Ytifmgngmkajahaa
