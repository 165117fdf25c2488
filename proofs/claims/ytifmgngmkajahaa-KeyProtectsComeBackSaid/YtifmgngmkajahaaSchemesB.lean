/- Walks: parts (both), addSpan, blocks. Conditions as stated. -/
import Derived.Test.YtifmgngmkajahaaSchemesA
namespace Go.Proofs.Ytifmgngmkajahaa
open Go.RowKit

theorem Try.info33 : (Try.prog.info? 33).map (fun i => (i.zero, i.size, i.bytes)) = some (some (.agg #[.int .i64 0, .int .i64 0]), 2, 16) := by kernel_rfl
theorem infoInt : (Try.prog.info? 3).map (fun i => (i.zero, i.size, i.bytes)) = some (some (.int .i64 0), 1, 8) := by kernel_rfl
theorem len64 (x : Int) : (e64 x).length = 1 := rfl
theorem one64 (x : Int) : ∀ u ∈ e64 x, u.oneCell' = true := by intro u hu; simp at hu; subst hu; rfl
theorem At.int1 (w : World) (x : Int) (t : TypeId) : At (w.alloc (.cells #[.int .i64 x] t)) 1 e64 (some ⟨w.heap.size, 0, none⟩) 1 1 [x] :=
  ⟨rfl, Nat.le_refl _, by unfold maxLen; omega, fun h => (by cases h), fun k y hy => ⟨_, _, rfl, fun j u hu => by
    match k, hy with
    | 0, hy =>
      simp at hy; subst hy
      match j, hu with
      | 0, hu =>
        simp at hu; subst hu
        exact (Blk.new w _ _).cell 0
      | j + 1, hu => simp at hu
    | k + 1, hy => simp at hy⟩⟩
theorem Own.notAt {α : Type} {w : World} {base : Nat} {t : TypeId} {sz : Nat} {enc : α → List Value} {v : Value} {xs : List α} (h : Own w base t sz enc v xs) {k : Nat} (hk : w.heap.size ≤ k) : some k ≠ v.ownBlock := by
  intro e
  have := (h.lt k e.symm).2
  omega
/-- The parts of a list, one by one, as the program has them; as the document has them. -/
def partP (l : List (Int × Int)) : List (Int × Int) × Int := l.foldl (fun st s => (st.1 ++ [(st.2 + s.1, st.2 + s.1 + s.2)], st.2 + (s.1 + s.2))) ([], 0)
def partR (l : List (Int × Int)) : List (Int × Int) × Int := l.foldl (fun st s => (if 0 < s.2 then st.1 ++ [(st.2 + s.1, st.2 + s.1 + s.2)] else st.1, st.2 + s.1 + s.2)) ([], 0)
def partsP (l : List (Int × Int)) (z : Int) : List (Int × Int) := if l.length = 0 then [(0, z)] else (partP l).1
def partsR (l : List (Int × Int)) (z : Int) : List (Int × Int) := if l.length = 0 ∧ 0 < z then [(0, z)] else (partR l).1
theorem partP_bd {l : List (Int × Int)} (h : ∀ j, j < l.length → subEl l j = 0) : ∀ k, k ≤ l.length → 0 ≤ (partP (l.take k)).2 ∧ (partP (l.take k)).2 ≤ 200000 * (k : Int) ∧ (partP (l.take k)).1.length = k ∧
    (partR (l.take k)).2 = (partP (l.take k)).2 ∧ (partR (l.take k)).1.length ≤ k ∧ (partR (l.take k)).1 = (partP (l.take k)).1.filter (fun p => decide (p.1 < p.2)) ∧ (partP (l.take k)).2 = sumS (l.take k) ∧ chainS 0 (partP (l.take k)).1 ∧ endS 0 (partP (l.take k)).1 = (partP (l.take k)).2
  | 0, _ => by simp [partP, partR, sumS, chainS, endS]
  | k + 1, hk => by
    obtain ⟨h1, h2, h3, h4, h5, h6, h7, h8, h9⟩ := partP_bd h k (by omega)
    obtain ⟨e1, e2, e3⟩ := subEl_zero (h k (by omega))
    unfold partP partR sumS at *
    rw [foldl_take _ _ _ _ (0, 0) (by omega), foldl_take _ _ _ _ (0, 0) (by omega), foldl_take _ _ _ _ (0, 0) (by omega)]
    generalize List.foldl _ ([], (0 : Int)) (l.take k) = st at *
    generalize List.foldl _ ([], (0 : Int)) (l.take k) = sr at *
    generalize l.getD k (0, 0) = s at *
    obtain ⟨out, t⟩ := st
    obtain ⟨outr, tr⟩ := sr
    obtain ⟨s0, s1⟩ := s
    simp only at *
    subst h4
    refine ⟨by omega, by omega, by simp [h3], by omega, ?_, ?_, by omega, ?_, ?_⟩
    · by_cases hs : 0 < s1
      · rw [if_pos hs, List.length_append, List.length_singleton]; omega
      · rw [if_neg hs]; omega
    · rw [List.filter_append, ← h6]
      by_cases hs : 0 < s1
      · rw [if_pos hs, List.filter_cons, if_pos (by simp only [decide_eq_true_eq]; omega)]; rfl
      · rw [if_neg hs, List.filter_cons, if_neg (by simp only [decide_eq_true_eq]; omega), List.filter_nil, List.append_nil]
    · refine chainS_app _ _ h8 ⟨?_, ?_, trivial⟩
      · rw [h9]; simp only; omega
      · simp only; omega
    · rw [endS_app, endS]
      simp only [endS]; omega

set_option maxRecDepth 100000 in
set_option maxHeartbeats 4000000 in
theorem keyParts_any {A : Option Addr} {n c : Nat} {l : List (Int × Int)} {w : World} (h : At w 2 e2 A n c l) (hz : subsF l = 0) (z : Int) :
    Calls Try.prog 103 #[.slice A n c, .int .i64 z] w fun e w' => ∃ A' m c', e = .returned (.slice A' m c') ∧ At w' 2 e2 A' m c' (partsP l z) ∧ m ≤ 501 ∧ Ext w w' ∧ (∀ a, A' = some a → w.heap.size ≤ a.block) := by
  obtain ⟨i0, hi0, hz0, hz1, hz2⟩ := info_parts Try.info33
  have hb := h.bound
  have hl := hide h.len
  have H := hide h
  clear h
  obtain ⟨hn5, hall⟩ := subsF_zero hz
  have hn : n ≤ 500 := by have := hl.out; omega
  have HALL := hide hall
  by_cases hn0 : n = 0
  · subst hn0
    have HQ : Hid (partsP l z = [(0, z)]) := hide (by unfold partsP; rw [if_pos hl.out])
    have A7 := hide (At.pair1 w 0 z 33)
    clear hall hz hn5
    go_enter Try.func103, Try.ntmps103
    go_wp2_with fail
    go_ret
    exact ⟨_, _, _, rfl, by rw [HQ.out]; exact A7.out, by omega, (by repeat' (first | (with_reducible exact Below.refl _ _) | (with_reducible assumption) | (with_reducible refine below_drewN ?_ _) | (with_reducible refine Below.drew ?_) | (with_reducible refine ext_alloc ?_ _) | (with_reducible refine Below.setCell ?_ ?_ _) | go_size)), fun a ha => by injection ha with ha; subst ha; exact Nat.le_refl _⟩
  have HQ : Hid (partsP l z = (partP l).1) := hide (by unfold partsP; rw [if_neg (by rw [hl.out]; exact hn0)])
  have HS := hide (partP_bd hall)
  have h00 : ((n : Int) == 0) = false := by simp; omega
  clear hall hz hn5
  go_enter Try.func103, Try.ntmps103
  go_wp2_with fail
  go_loopw [5, 6, 17] (fun ro ra ri wr => ∃ (k : Nat) (a : Int), k ≤ n ∧ ri = .int .i64 k ∧ ra = .int .i64 a ∧ 0 ≤ a ∧ a ≤ 200000 * (k : Int) ∧ Hid (a = (partP (l.take k)).2) ∧ Hid (Own wr w.heap.size 33 2 e2 ro (partP (l.take k)).1) ∧ Hid (Ext w wr)) (fun _ _ ri _ => n - (intOf ri).toNat)
  case atStart => exact ⟨0, 0, by omega, rfl, rfl, by omega, by omega, hide rfl, hide (Own.nil _ _ _ _ _), hide (Ext.refl _)⟩
  case round =>
    obtain ⟨k, a, hk, rfl, rfl, hc0, hc1, HA, HO, HX⟩ := hrel
    have hlen := hl.out
    by_cases hlt : k < n
    · obtain ⟨b, off, rfl, _⟩ := H.out.addr (by omega)
      obtain ⟨a1, a2⟩ := (H.out.ext HX.out).pair hlt
      obtain ⟨e1, e2', e3⟩ := subEl_zero (HALL.out k (by omega))
      have h5 := (HS.out k (by omega)).2.2.1
      have hst : partP (l.take (k + 1)) = ((partP (l.take k)).1 ++ [(a + (l.getD k (0, 0)).1, a + (l.getD k (0, 0)).1 + (l.getD k (0, 0)).2)], a + ((l.getD k (0, 0)).1 + (l.getD k (0, 0)).2)) := by
        rw [HA.out]; unfold partP; rw [foldl_take _ _ _ _ (0, 0) (by omega)]
      have HN := hide (HO.out.notAt (Nat.le_refl _))
      have HST := hide hst
      have H5 := hide h5
      generalize (l.getD k (0, 0)).1 = y0 at *
      generalize (l.getD k (0, 0)).2 = y1 at *
      generalize (partP (l.take k)).1 = out at *
      have E2 := hide (ext_alloc HX.out (.cells #[.int .i64 y0, .int .i64 y1] 49))
      have A7 := hide (At.pair1 (wr.alloc (.cells #[.int .i64 y0, .int .i64 y1] 49)) (a + y0) (a + y0 + y1) 33)
      have O7 := hide ((HO.out.ext (Ext.alloc wr (.cells #[.int .i64 y0, .int .i64 y1] 49))).ext (Ext.alloc _ (.cells #[.int .i64 (a + y0), .int .i64 (a + y0 + y1)] 33)))
      have E7 := hide (ext_alloc E2.out (.cells #[.int .i64 (a + y0), .int .i64 (a + y0 + y1)] 33))
      have z7 := E7.out.size
      simp only [World.size_alloc] at A7
      clear hst hlen HO h5 HA
      go_wp2_with (at_builtin; refine wpList_append_at _ rfl (.tmp 21) (.tmp 34) 58 rfl w.heap.size 33 i0 _ 16 Try.underlying58 hi0 hz0 hz1 hz2 rfl (by omega) len_e2 one_e2 _ out rfl O7.out (some ⟨wr.heap.size + 1, 0, none⟩) 1 1 [(a + y0, a + y0 + y1)] rfl A7.out ?d1 ?d2 ?d3 ?_)
      case d1 => rw [H5.out]; unfold maxLen; omega
      case d2 => rw [H5.out]; omega
      case d3 => exact z7
      intro v8 w8 o8 g8 _ _
      have E8 : Hid (Ext w w8) := hide (O7.out.below E7.out g8 (Nat.le_refl _))
      have B8 := ((Blk.new wr 49 #[.int .i64 y0, .int .i64 y1]).alloc (.cells #[.int .i64 (a + y0), .int .i64 (a + y0 + y1)] 33)).grown g8 HN.out
      have k8 := B8.cell 0
      have k9 := B8.cell 1
      simp only [List.getElem?_toArray, List.getElem?_cons_zero, List.getElem?_cons_succ] at k8 k9
      have O8 : Hid (Own w8 w.heap.size 33 2 e2 v8 (partP (l.take (k + 1))).1) := hide (by rw [HST.out]; exact o8)
      have C8 : Hid (a + (y0 + y1) = (partP (l.take (k + 1))).2) := hide (by rw [HST.out])
      clear o8 g8 O7 E7 z7 A7 E2 B8 HST
      go_wp2
      go_roundw
      case rel =>
        first
          | exact ⟨k + 1, a + (y0 + y1), by omega, by go_num, rfl, by omega, by omega, C8, O8, E8⟩
          | ((repeat apply Exists.intro); exact ⟨⟨k + 1, a + (y0 + y1), by omega, by go_num, rfl, by omega, by omega, C8, O8, E8⟩, rfl⟩)
      case measure => simp [intOf]; omega
    · have h5 := (HS.out k (by omega)).2.2.1
      have hfull : (partP (l.take k)).1 = partsP l z := by rw [List.take_of_length_le (by omega), HQ.out]
      obtain ⟨A9, c9, hv9, a9⟩ := HO.out.at_ len_e2
      rw [h5] at hv9 a9
      rw [hfull] at a9
      subst hv9
      have HV := hide a9
      have HW := hide (fun (a : Addr) (ha : A9 = some a) => (HO.out.lt a.block (by rw [ha]; rfl)).1)
      clear hfull h5 a9 HO HA hlen
      go_wp2
      go_ret
      exact ⟨_, _, _, rfl, HV.out, by omega, HX.out, HW.out⟩
set_option maxRecDepth 100000 in
set_option maxHeartbeats 4000000 in
theorem refParts_any {A : Option Addr} {n c : Nat} {l : List (Int × Int)} {w : World} (h : At w 2 e2 A n c l) (hz : subsF l = 0) (z : Int) :
    Calls Try.prog 107 #[.slice A n c, .int .i64 z] w fun e w' => ∃ A' m c', e = .returned (.slice A' m c') ∧ At w' 2 e2 A' m c' (partsR l z) ∧ m ≤ 501 ∧ Ext w w' ∧ (∀ a, A' = some a → w.heap.size ≤ a.block) := by
  obtain ⟨i0, hi0, hz0, hz1, hz2⟩ := info_parts Try.info33
  have hb := h.bound
  have hl := hide h.len
  have H := hide h
  clear h
  obtain ⟨hn5, hall⟩ := subsF_zero hz
  have hn : n ≤ 500 := by have := hl.out; omega
  have HALL := hide hall
  by_cases hn0 : n = 0
  · subst hn0
    have hl0 := hl.out
    obtain rfl : l = [] := List.eq_nil_of_length_eq_zero hl0
    by_cases hz0' : 0 < z
    · have HQ : Hid (partsR [] z = [(0, z)]) := hide (by unfold partsR; rw [if_pos ⟨rfl, hz0'⟩])
      have A7 := hide (At.pair1 w 0 z 33)
      clear hall hz hn5 hl0
      go_enter Try.func107, Try.ntmps107
      go_wp2_with fail
      go_ret
      exact ⟨_, _, _, rfl, by rw [HQ.out]; exact A7.out, by omega, (by repeat' (first | (with_reducible exact Below.refl _ _) | (with_reducible assumption) | (with_reducible refine below_drewN ?_ _) | (with_reducible refine Below.drew ?_) | (with_reducible refine ext_alloc ?_ _) | (with_reducible refine Below.setCell ?_ ?_ _) | go_size)), fun a ha => by injection ha with ha; subst ha; exact Nat.le_refl _⟩
    · have HQ : Hid (partsR [] z = []) := hide (by unfold partsR; rw [if_neg (by intro h; exact hz0' h.2)]; rfl)
      clear hall hz hn5 hl0
      go_enter Try.func107, Try.ntmps107
      go_wp2_with fail
      go_loopw [5, 21] (fun ro ri wr => ri = .int .i64 0 ∧ ro = .slice none 0 0 ∧ Hid (Ext w wr)) (fun _ _ _ => 0)
      case atStart => exact ⟨rfl, rfl, hide (Ext.refl _)⟩
      case round =>
        obtain ⟨rfl, rfl, HX⟩ := hrel
        go_wp2_with fail
        go_ret
        exact ⟨_, _, _, rfl, by rw [HQ.out]; exact At.nil _ _ _, by omega, HX.out, fun a ha => by cases ha⟩
  have HQ : Hid (partsR l z = (partR l).1) := hide (by unfold partsR; rw [if_neg (by rw [hl.out]; intro h; exact hn0 h.1)])
  have HS := hide (partP_bd hall)
  have h00 : ((n : Int) == 0) = false := by simp; omega
  clear hall hz hn5
  go_enter Try.func107, Try.ntmps107
  go_wp2_with fail
  go_loopw [5, 6, 21] (fun ro ra ri wr => ∃ (k : Nat) (a : Int), k ≤ n ∧ ri = .int .i64 k ∧ ra = .int .i64 a ∧ 0 ≤ a ∧ a ≤ 200000 * (k : Int) ∧ Hid (a = (partR (l.take k)).2) ∧ Hid (Own wr w.heap.size 33 2 e2 ro (partR (l.take k)).1) ∧ Hid (Ext w wr)) (fun _ _ ri _ => n - (intOf ri).toNat)
  case atStart => exact ⟨0, 0, by omega, rfl, rfl, by omega, by omega, hide rfl, hide (Own.nil _ _ _ _ _), hide (Ext.refl _)⟩
  case round =>
    obtain ⟨k, a, hk, rfl, rfl, hc0, hc1, HA, HO, HX⟩ := hrel
    have hlen := hl.out
    by_cases hlt : k < n
    · obtain ⟨b, off, rfl, _⟩ := H.out.addr (by omega)
      obtain ⟨a1, a2⟩ := (H.out.ext HX.out).pair hlt
      obtain ⟨e1, e2', e3⟩ := subEl_zero (HALL.out k (by omega))
      have h5 := (HS.out k (by omega)).2.2.2.2.1
      have hst : partR (l.take (k + 1)) = (if 0 < (l.getD k (0, 0)).2 then (partR (l.take k)).1 ++ [(a + (l.getD k (0, 0)).1, a + (l.getD k (0, 0)).1 + (l.getD k (0, 0)).2)] else (partR (l.take k)).1, a + (l.getD k (0, 0)).1 + (l.getD k (0, 0)).2) := by
        rw [HA.out]; unfold partR; rw [foldl_take _ _ _ _ (0, 0) (by omega)]
      have HN := hide (HO.out.notAt (Nat.le_refl _))
      generalize (l.getD k (0, 0)).1 = y0 at *
      generalize (l.getD k (0, 0)).2 = y1 at *
      generalize (partR (l.take k)).1 = out at *
      have HST := hide hst
      have H5 := hide h5
      have E2 := hide (ext_alloc HX.out (.cells #[.int .i64 y0, .int .i64 y1] 49))
      clear hst hlen h5 HA
      by_cases hs : 0 < y1
      · have A7 := hide (At.pair1 (wr.alloc (.cells #[.int .i64 y0, .int .i64 y1] 49)) (a + y0) (a + y0 + y1) 33)
        have O7 := hide ((HO.out.ext (Ext.alloc wr (.cells #[.int .i64 y0, .int .i64 y1] 49))).ext (Ext.alloc _ (.cells #[.int .i64 (a + y0), .int .i64 (a + y0 + y1)] 33)))
        have E7 := hide (ext_alloc E2.out (.cells #[.int .i64 (a + y0), .int .i64 (a + y0 + y1)] 33))
        have z7 := E7.out.size
        simp only [World.size_alloc] at A7
        clear HO
        go_wp2_with (at_builtin; refine wpList_append_at _ rfl (.tmp 32) (.tmp 39) 58 rfl w.heap.size 33 i0 _ 16 Try.underlying58 hi0 hz0 hz1 hz2 rfl (by omega) len_e2 one_e2 _ out rfl O7.out (some ⟨wr.heap.size + 1, 0, none⟩) 1 1 [(a + y0, a + y0 + y1)] rfl A7.out ?d1 ?d2 ?d3 ?_)
        case d1 => have := H5.out; unfold maxLen; omega
        case d2 => have := H5.out; omega
        case d3 => exact z7
        intro v8 w8 o8 g8 _ _
        have E8 : Hid (Ext w w8) := hide (O7.out.below E7.out g8 (Nat.le_refl _))
        have B8 := ((Blk.new wr 49 #[.int .i64 y0, .int .i64 y1]).alloc (.cells #[.int .i64 (a + y0), .int .i64 (a + y0 + y1)] 33)).grown g8 HN.out
        have k8 := B8.cell 0
        have k9 := B8.cell 1
        simp only [List.getElem?_toArray, List.getElem?_cons_zero, List.getElem?_cons_succ] at k8 k9
        have O8 : Hid (Own w8 w.heap.size 33 2 e2 v8 (partR (l.take (k + 1))).1) := hide (by rw [HST.out, if_pos hs]; exact o8)
        have C8 : Hid (a + y0 + y1 = (partR (l.take (k + 1))).2) := hide (by rw [HST.out])
        clear o8 g8 O7 E7 z7 A7 E2 B8 HST
        go_wp2
        go_roundw
        case rel =>
          first
            | exact ⟨k + 1, a + y0 + y1, by omega, by go_num, rfl, by omega, by omega, C8, O8, E8⟩
            | ((repeat apply Exists.intro); exact ⟨⟨k + 1, a + y0 + y1, by omega, by go_num, rfl, by omega, by omega, C8, O8, E8⟩, rfl⟩)
        case measure => simp [intOf]; omega
      · have O8 : Hid (Own (wr.alloc (.cells #[.int .i64 y0, .int .i64 y1] 49)) w.heap.size 33 2 e2 u5 (partR (l.take (k + 1))).1) := hide (by rw [HST.out, if_neg hs]; exact HO.out.ext (Ext.alloc _ _))
        have C8 : Hid (a + y0 + y1 = (partR (l.take (k + 1))).2) := hide (by rw [HST.out])
        clear HST HO
        go_wp2
        go_roundw
        case rel =>
          first
            | exact ⟨k + 1, a + y0 + y1, by omega, by go_num, rfl, by omega, by omega, C8, O8, E2⟩
            | ((repeat apply Exists.intro); exact ⟨⟨k + 1, a + y0 + y1, by omega, by go_num, rfl, by omega, by omega, C8, O8, E2⟩, rfl⟩)
        case measure => simp [intOf]; omega
    · have h5 := (HS.out k (by omega)).2.2.2.2.1
      have hfull : (partR (l.take k)).1 = partsR l z := by rw [List.take_of_length_le (by omega), HQ.out]
      obtain ⟨A9, c9, hv9, a9⟩ := HO.out.at_ len_e2
      rw [hfull] at a9 h5 hv9
      subst hv9
      have HV := hide a9
      have HW := hide (fun (a : Addr) (ha : A9 = some a) => (HO.out.lt a.block (by rw [ha]; rfl)).1)
      have H5 : Hid ((partsR l z).length ≤ 501) := hide (by omega)
      clear hfull h5 a9 HO HA hlen
      go_wp2
      go_ret
      exact ⟨_, _, _, rfl, HV.out, H5.out, HX.out, HW.out⟩
end Go.Proofs.Ytifmgngmkajahaa
