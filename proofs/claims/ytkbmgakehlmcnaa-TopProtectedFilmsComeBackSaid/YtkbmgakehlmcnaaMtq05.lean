/- Several texts in one: Walks: parts (both), addSpan, blocks. Conditions as stated; Walks: addSpan, blocks. Conditions as stated; Plain law: what is touched, as the program and as the document have it. Conditions as stated; The cipher as plain functions on UInt32 and lists of bytes: what both the program and the reference compute. No condition; Walks of the small functions of the cipher: word, mix, words, wordBytes, encrypt, decrypt, xor. Conditions: lengths as stated. -/
import Derived.Test.YtkbmgakehlmcnaaMtq04
import Derived.Test.YtkbmgakehlmcnaaProg
import Derived.Test.YtkbmgakehlmcnaaMtq00
namespace Go.Proofs.Ytkbmgakehlmcnaa
open Go.RowKit
theorem Try.infoK106 : (Try.prog.info? 106).map (fun i => (i.zero, i.size, i.bytes)) = some (some (.agg #[.int .i64 0, .int .i64 0]), 2, 16) := by kernel_rfl
theorem infoInt : (Try.prog.info? 3).map (fun i => (i.zero, i.size, i.bytes)) = some (some (.int .i64 0), 1, 8) := by kernel_rfl
theorem len64 (x : Int) : (e64 x).length = 1 := rfl
theorem one64 (x : Int) : ∀ u ∈ e64 x, u.oneCell' = true := by intro u hu; simp at hu; subst hu; rfl
theorem At.int1 (w : World) (x : Int) (t : TypeId) : At (w.alloc (.cells #[.int .i64 x] t)) 1 e64 (some ⟨w.heap.size, 0, none⟩) 1 1 [x] :=
  ⟨rfl, Nat.le_refl _, by unfold maxLen; omega, fun h => (by cases h), fun k y hy => ⟨_, _, rfl, fun j u hu => by
    match k, hy with
    | 0, hy =>
      simp at hy; subst hy
      match j, hu with
      | 0, hu =>
        simp at hu; subst hu
        exact (Blk.new w _ _).cell 0
      | j + 1, hu => simp at hu
    | k + 1, hy => simp at hy⟩⟩
theorem Own.notAt {α : Type} {w : World} {base : Nat} {t : TypeId} {sz : Nat} {enc : α → List Value} {v : Value} {xs : List α} (h : Own w base t sz enc v xs) {k : Nat} (hk : w.heap.size ≤ k) : some k ≠ v.ownBlock := by
  intro e
  have := (h.lt k e.symm).2
  omega
def partP (l : List (Int × Int)) : List (Int × Int) × Int := l.foldl (fun st s => (st.1 ++ [(st.2 + s.1, st.2 + s.1 + s.2)], st.2 + (s.1 + s.2))) ([], 0)
def partR (l : List (Int × Int)) : List (Int × Int) × Int := l.foldl (fun st s => (if 0 < s.2 then st.1 ++ [(st.2 + s.1, st.2 + s.1 + s.2)] else st.1, st.2 + s.1 + s.2)) ([], 0)
def partsP (l : List (Int × Int)) (z : Int) : List (Int × Int) := if l.length = 0 then [(0, z)] else (partP l).1
theorem partP_bd {l : List (Int × Int)} (h : ∀ j, j < l.length → subEl l j = 0) : ∀ k, k ≤ l.length → 0 ≤ (partP (l.take k)).2 ∧ (partP (l.take k)).2 ≤ 200000 * (k : Int) ∧ (partP (l.take k)).1.length = k ∧
    (partR (l.take k)).2 = (partP (l.take k)).2 ∧ (partR (l.take k)).1.length ≤ k ∧ (partR (l.take k)).1 = (partP (l.take k)).1.filter (fun p => decide (p.1 < p.2)) ∧ (partP (l.take k)).2 = sumS (l.take k) ∧ chainS 0 (partP (l.take k)).1 ∧ endSK 0 (partP (l.take k)).1 = (partP (l.take k)).2
  | 0, _ => by simp [partP, partR, sumS, chainS, endSK]
  | k + 1, hk => by
    obtain ⟨h1, h2, h3, h4, h5, h6, h7, h8, h9⟩ := partP_bd h k (by omega)
    obtain ⟨e1, e2, e3⟩ := subEl_zero (h k (by omega))
    unfold partP partR sumS at *
    rw [foldl_take _ _ _ _ (0, 0) (by omega), foldl_take _ _ _ _ (0, 0) (by omega), foldl_take _ _ _ _ (0, 0) (by omega)]
    generalize List.foldl _ ([], (0 : Int)) (l.take k) = st at *
    generalize List.foldl _ ([], (0 : Int)) (l.take k) = sr at *
    generalize l.getD k (0, 0) = s at *
    obtain ⟨out, t⟩ := st
    obtain ⟨outr, tr⟩ := sr
    obtain ⟨s0, s1⟩ := s
    simp only at *
    subst h4
    refine ⟨by omega, by omega, by simp [h3], by omega, ?_, ?_, by omega, ?_, ?_⟩
    · by_cases hs : 0 < s1
      · rw [if_pos hs, List.length_append, List.length_singleton]; omega
      · rw [if_neg hs]; omega
    · rw [List.filter_append, ← h6]
      by_cases hs : 0 < s1
      · rw [if_pos hs, List.filter_cons, if_pos (by simp only [decide_eq_true_eq]; omega)]; rfl
      · rw [if_neg hs, List.filter_cons, if_neg (by simp only [decide_eq_true_eq]; omega), List.filter_nil, List.append_nil]
    · refine chainS_app _ _ h8 ⟨?_, ?_, trivial⟩
      · rw [h9]; simp only; omega
      · simp only; omega
    · rw [endS_app, endSK]
      simp only [endSK]; omega
set_option maxRecDepth 100000 in
set_option maxHeartbeats 4000000 in
theorem keyParts_any {A : Option Addr} {n c : Nat} {l : List (Int × Int)} {w : World} (h : At w 2 e2 A n c l) (hz : subsF l = 0) (z : Int) :
    Calls Try.prog 43 #[.slice A n c, .int .i64 z] w fun e w' => ∃ A' m c', e = .returned (.slice A' m c') ∧ At w' 2 e2 A' m c' (partsP l z) ∧ m ≤ 501 ∧ Ext w w' ∧ (∀ a, A' = some a → w.heap.size ≤ a.block) := by
  obtain ⟨i0, hi0, hz0, hz1, hz2⟩ := info_parts Try.infoK106
  have hb := h.bound
  have hl := hide h.len
  have H := hide h
  clear h
  obtain ⟨hn5, hall⟩ := subsF_zero hz
  have hn : n ≤ 500 := by have := hl.out; omega
  have HALL := hide hall
  by_cases hn0 : n = 0
  · subst hn0
    have HQ : Hid (partsP l z = [(0, z)]) := hide (by unfold partsP; rw [if_pos hl.out])
    have A7 := hide (At.pair1 w 0 z 106)
    clear hall hz hn5
    go_enter Try.func43, Try.ntmps43
    go_wp2_with fail
    go_ret
    exact ⟨_, _, _, rfl, by rw [HQ.out]; exact A7.out, by omega, (by repeat' (first | (with_reducible first | exact Below.refl _ _ | assumption | refine below_drewN ?_ _ | refine Below.drew ?_ | refine ext_alloc ?_ _ | refine Below.setCell ?_ ?_ _) | go_size)), fun a ha => by injection ha with ha; subst ha; exact Nat.le_refl _⟩
  have HQ : Hid (partsP l z = (partP l).1) := hide (by unfold partsP; rw [if_neg (by rw [hl.out]; exact hn0)])
  have HS := hide (partP_bd hall)
  have h00 : ((n : Int) == 0) = false := by simp; omega
  clear hall hz hn5
  go_enter Try.func43, Try.ntmps43
  go_wp2_with fail
  go_loopw [5, 6, 17] (fun ro ra ri wr => ∃ (k : Nat) (a : Int), k ≤ n ∧ ri = .int .i64 k ∧ ra = .int .i64 a ∧ 0 ≤ a ∧ a ≤ 200000 * (k : Int) ∧ Hid (a = (partP (l.take k)).2) ∧ Hid (Own wr w.heap.size 106 2 e2 ro (partP (l.take k)).1) ∧ Hid (Ext w wr)) (fun _ _ ri _ => n - (intOf ri).toNat)
  case atStart => exact ⟨0, 0, by omega, rfl, rfl, by omega, by omega, hide rfl, hide (Own.nil _ _ _ _ _), hide (Ext.refl _)⟩
  case round =>
    obtain ⟨k, a, hk, rfl, rfl, hc0, hc1, HA, HO, HX⟩ := hrel
    have hlen := hl.out
    by_cases hlt : k < n
    · obtain ⟨b, off, rfl, _⟩ := H.out.addr (by omega)
      obtain ⟨a1, a2⟩ := (H.out.ext HX.out).pair hlt
      obtain ⟨e1, e2', e3⟩ := subEl_zero (HALL.out k (by omega))
      have h5 := (HS.out k (by omega)).2.2.1
      have hst : partP (l.take (k + 1)) = ((partP (l.take k)).1 ++ [(a + (l.getD k (0, 0)).1, a + (l.getD k (0, 0)).1 + (l.getD k (0, 0)).2)], a + ((l.getD k (0, 0)).1 + (l.getD k (0, 0)).2)) := by
        rw [HA.out]; unfold partP; rw [foldl_take _ _ _ _ (0, 0) (by omega)]
      have HN := hide (HO.out.notAt (Nat.le_refl _))
      have HST := hide hst
      have H5 := hide h5
      generalize (l.getD k (0, 0)).1 = y0 at *
      generalize (l.getD k (0, 0)).2 = y1 at *
      generalize (partP (l.take k)).1 = out at *
      have E2 := hide (ext_alloc HX.out (.cells #[.int .i64 y0, .int .i64 y1] 142))
      have A7 := hide (At.pair1 (wr.alloc (.cells #[.int .i64 y0, .int .i64 y1] 142)) (a + y0) (a + y0 + y1) 106)
      have O7 := hide ((HO.out.ext (Ext.alloc wr (.cells #[.int .i64 y0, .int .i64 y1] 142))).ext (Ext.alloc _ (.cells #[.int .i64 (a + y0), .int .i64 (a + y0 + y1)] 106)))
      have E7 := hide (ext_alloc E2.out (.cells #[.int .i64 (a + y0), .int .i64 (a + y0 + y1)] 106))
      have z7 := E7.out.size
      simp only [World.size_alloc] at A7
      clear hst hlen HO h5 HA
      go_wp2_with (at_builtin; refine wpList_append_at _ rfl (.tmp 21) (.tmp 34) 103 rfl w.heap.size 106 i0 _ 16 Try.underlying103 hi0 hz0 hz1 hz2 rfl (by omega) len_e2 one_e2 _ out rfl O7.out (some ⟨wr.heap.size + 1, 0, none⟩) 1 1 [(a + y0, a + y0 + y1)] rfl A7.out ?d1 ?d2 ?d3 ?_)
      case d1 => rw [H5.out]; unfold maxLen; omega
      case d2 => rw [H5.out]; omega
      case d3 => exact z7
      intro v8 w8 o8 g8 _ _
      have E8 : Hid (Ext w w8) := hide (O7.out.below E7.out g8 (Nat.le_refl _))
      have B8 := ((Blk.new wr 142 #[.int .i64 y0, .int .i64 y1]).alloc (.cells #[.int .i64 (a + y0), .int .i64 (a + y0 + y1)] 106)).grown g8 HN.out
      have k8 := B8.cell 0
      have k9 := B8.cell 1
      simp only [List.getElem?_toArray, List.getElem?_cons_zero, List.getElem?_cons_succ] at k8 k9
      have O8 : Hid (Own w8 w.heap.size 106 2 e2 v8 (partP (l.take (k + 1))).1) := hide (by rw [HST.out]; exact o8)
      have C8 : Hid (a + (y0 + y1) = (partP (l.take (k + 1))).2) := hide (by rw [HST.out])
      clear o8 g8 O7 E7 z7 A7 E2 B8 HST
      go_wp2
      go_roundw
      case rel =>
        first
          | exact ⟨k + 1, a + (y0 + y1), by omega, by go_num, rfl, by omega, by omega, C8, O8, E8⟩
          | ((repeat apply Exists.intro); exact ⟨⟨k + 1, a + (y0 + y1), by omega, by go_num, rfl, by omega, by omega, C8, O8, E8⟩, rfl⟩)
      case measure => simp [intOf]; omega
    · have h5 := (HS.out k (by omega)).2.2.1
      have hfull : (partP (l.take k)).1 = partsP l z := by rw [List.take_of_length_le (by omega), HQ.out]
      obtain ⟨A9, c9, hv9, a9⟩ := HO.out.at_ len_e2
      rw [h5] at hv9 a9
      rw [hfull] at a9
      subst hv9
      have HV := hide a9
      have HW := hide (fun (a : Addr) (ha : A9 = some a) => (HO.out.lt a.block (by rw [ha]; rfl)).1)
      clear hfull h5 a9 HO HA hlen
      go_wp2
      go_ret
      exact ⟨_, _, _, rfl, HV.out, by omega, HX.out, HW.out⟩
theorem grownSet (w : World) (g i : Nat) (v : Value) : w.grownBy (w.setCell ⟨g, i, none⟩ v) (some g) :=
  ⟨rfl, rfl, rfl, by simp [World.setCell], fun k _ hk => Below.heap_setCell w _ _ k (fun e => hk (by rw [e]))⟩
def selB2 (c s : Int) (k : Nat) : Bool := decide (c = 0) || decide ((k : Int) % (c + s) < c)
def blkN (c s x : Int) : Nat → List Int
  | 0 => []
  | k + 1 => if selB2 c s k = true then blkN c s x k ++ [x + (k : Int) * 8] else blkN c s x k
theorem length_blkN (c s x : Int) : ∀ k, (blkN c s x k).length ≤ k
  | 0 => Nat.le_refl _
  | k + 1 => by
    have := length_blkN c s x k
    unfold blkN
    split <;> simp <;> omega
set_option maxRecDepth 100000 in
set_option maxHeartbeats 4000000 in
theorem blocks_any (w : World) (m c s x y : Int) (hc : 0 ≤ c ∧ c ≤ 10) (hs : 0 ≤ s ∧ s ≤ 10) (hx : 0 ≤ x) (hxy : x ≤ y) (hy : y ≤ 100000000) :
    Calls Try.prog 45 #[schV m c s, .agg #[.int .i64 x, .int .i64 y]] w fun e w' => ∃ A n k, e = .returned (.slice A n k) ∧ Own w' w.heap.size 3 1 e64 (.slice A n k) (blkN c s x ((y - x) / 8).toNat) ∧ Ext w w' := by
  obtain ⟨i0, hi0, hz0, hz1, hz2⟩ := info_parts infoInt
  obtain ⟨N, hN⟩ : ∃ N, N = ((y - x) / 8).toNat := ⟨_, rfl⟩
  rw [← hN]
  have hN1 : 8 * (N : Int) ≤ y - x := by omega
  have hN2 : y - x < 8 * (N : Int) + 8 := by omega
  clear hN
  go_enter Try.func45, Try.ntmps45
  go_wp2_with fail
  go_loopw [5, 6] (fun ro ri wr => ∃ k : Nat, k ≤ N ∧ ri = .int .i64 k ∧ Hid (Own wr (w.heap.size + 2) 3 1 e64 ro (blkN c s x k)) ∧ Hid (Ext ((w.alloc (.cells #[.int .i64 m, .int .i64 c, .int .i64 s] 27)).alloc (.cells #[.int .i64 x, .int .i64 y] 106)) wr)) (fun _ ri _ => N - (intOf ri).toNat)
  case atStart => exact ⟨0, by omega, rfl, hide (Own.nil _ _ _ _ _), hide (Ext.refl _)⟩
  case round =>
    obtain ⟨k, hk, rfl, HO, HX⟩ := hrel
    have B1 := ((Blk.new w 27 #[.int .i64 m, .int .i64 c, .int .i64 s]).alloc (.cells #[.int .i64 x, .int .i64 y] 106)).ext HX.out
    have B2 := (Blk.new (w.alloc (.cells #[.int .i64 m, .int .i64 c, .int .i64 s] 27)) 106 #[.int .i64 x, .int .i64 y]).ext HX.out
    rw [World.size_alloc] at B2
    have c1 := B1.cell 1; have c2 := B1.cell 2
    have s0 := B2.cell 0; have s1 := B2.cell 1
    simp only [List.getElem?_toArray, List.getElem?_cons_zero, List.getElem?_cons_succ] at c1 c2 s0 s1
    by_cases hlt : k < N
    · have hl7 := hide (length_blkN c s x k)
      have i1 : x + ((k : Int) + 1) * 8 ≤ y := by omega
      have hN := hide (HO.out.notAt (Nat.le_refl _))
      by_cases hsel : selB2 c s k = true
      · have hb : blkN c s x (k + 1) = blkN c s x k ++ [x + (k : Int) * 8] := by rw [blkN, if_pos hsel]
        have HB := hide hb
        have HSEL := hide hsel
        generalize blkN c s x k = bl at *
        by_cases hc0 : c = 0
        · have j1 : (c == 0) = true := by simp [hc0]
          clear hb hsel hc0
          go_wp2_with fail
          go_quiet (fail)
          have A7 := hide (At.int1 (wr.drewN nq) (x + (k : Int) * 8) 3)
          have O7 := hide ((HO.out.ext (Ext.drewN _ nq)).ext (Ext.alloc _ (.cells #[.int .i64 (x + (k : Int) * 8)] 3)))
          have E7 := hide (Ext.trans (Ext.trans HX.out (Ext.drewN _ nq)) (Ext.alloc _ (.cells #[.int .i64 (x + (k : Int) * 8)] 3)))
          have hs7 : (wr.drewN nq).heap.size = wr.heap.size := rfl
          rw [hs7] at A7
          go_wp2_with (at_builtin; refine wpList_append_at _ rfl (.tmp 33) (.tmp 39) 79 rfl (w.heap.size + 2) 3 i0 _ 8 Try.underlying79 hi0 hz0 hz1 hz2 rfl (by omega) len64 one64 _ bl rfl O7.out (some ⟨wr.heap.size, 0, none⟩) 1 1 [x + (k : Int) * 8] rfl A7.out ?d1 ?d2 ?d3 ?_)
          case d1 => have := hl7.out; unfold maxLen; omega
          case d2 => have := hl7.out; omega
          case d3 => have := E7.out.size; simp at this ⊢; omega
          intro v8 w8 o8 g8 _ _
          have E8 := hide (O7.out.below E7.out g8 (by simp))
          have O8 : Hid (Own w8 (w.heap.size + 2) 3 1 e64 v8 (blkN c s x (k + 1))) := hide (by rw [HB.out]; exact o8)
          clear o8 g8 O7 E7 A7
          go_wp2
          go_roundw
          case rel =>
            first
              | exact ⟨k + 1, by omega, by go_num, O8, E8⟩
              | ((repeat apply Exists.intro); exact ⟨⟨k + 1, by omega, by go_num, O8, E8⟩, rfl⟩)
          case measure => simp [intOf]; omega
        · have j1 : (c == 0) = false := by simp [hc0]
          have j2 : 1 ≤ c + s := by omega
          have j3 : IntKind.i64.wrap (c + s) = c + s := by rw [IntKind.wrap_i64]; omega
          have j4 : decide ((k : Int) % (c + s) < c) = true := by
            unfold selB2 at hsel
            simpa [hc0] using hsel
          have j5 : decide ((k : Int).tmod (c + s) < c) = true := by rw [Int.tmod_eq_emod_of_nonneg (by omega)]; exact j4
          have j6 : c + s ≠ 0 := by omega
          clear hb hsel hc0
          go_wp2_with fail
          go_quiet (fail)
          have A7 := hide (At.int1 (wr.drewN nq) (x + (k : Int) * 8) 3)
          have O7 := hide ((HO.out.ext (Ext.drewN _ nq)).ext (Ext.alloc _ (.cells #[.int .i64 (x + (k : Int) * 8)] 3)))
          have E7 := hide (Ext.trans (Ext.trans HX.out (Ext.drewN _ nq)) (Ext.alloc _ (.cells #[.int .i64 (x + (k : Int) * 8)] 3)))
          have hs7 : (wr.drewN nq).heap.size = wr.heap.size := rfl
          rw [hs7] at A7
          go_wp2_with (at_builtin; refine wpList_append_at _ rfl (.tmp 33) (.tmp 39) 79 rfl (w.heap.size + 2) 3 i0 _ 8 Try.underlying79 hi0 hz0 hz1 hz2 rfl (by omega) len64 one64 _ bl rfl O7.out (some ⟨wr.heap.size, 0, none⟩) 1 1 [x + (k : Int) * 8] rfl A7.out ?d1 ?d2 ?d3 ?_)
          case d1 => have := hl7.out; unfold maxLen; omega
          case d2 => have := hl7.out; omega
          case d3 => have := E7.out.size; simp at this ⊢; omega
          intro v8 w8 o8 g8 _ _
          have E8 := hide (O7.out.below E7.out g8 (by simp))
          have O8 : Hid (Own w8 (w.heap.size + 2) 3 1 e64 v8 (blkN c s x (k + 1))) := hide (by rw [HB.out]; exact o8)
          clear o8 g8 O7 E7 A7
          go_wp2
          go_roundw
          case rel =>
            first
              | exact ⟨k + 1, by omega, by go_num, O8, E8⟩
              | ((repeat apply Exists.intro); exact ⟨⟨k + 1, by omega, by go_num, O8, E8⟩, rfl⟩)
          case measure => simp [intOf]; omega
      · have hb : blkN c s x (k + 1) = blkN c s x k := by rw [blkN, if_neg hsel]
        have hc0 : c ≠ 0 := fun h => hsel (by unfold selB2; simp [h])
        have j1 : (c == 0) = false := by simp [hc0]
        have j2 : 1 ≤ c + s := by omega
        have j3 : IntKind.i64.wrap (c + s) = c + s := by rw [IntKind.wrap_i64]; omega
        have j4 : decide ((k : Int) % (c + s) < c) = false := by
          unfold selB2 at hsel
          simpa [hc0] using hsel
        have j5 : decide ((k : Int).tmod (c + s) < c) = false := by rw [Int.tmod_eq_emod_of_nonneg (by omega)]; exact j4
        have j6 : c + s ≠ 0 := by omega
        have O8 := hide HO.out
        rw [← hb] at O8
        clear hb hsel hc0
        go_wp2_with fail
        go_quiet (fail)
        go_wp2
        go_roundw
        case rel =>
          first
            | exact ⟨k + 1, by omega, by go_num, hide (O8.out.ext (Ext.drewN _ _)), hide (Ext.trans HX.out (Ext.drewN _ _))⟩
            | ((repeat apply Exists.intro); exact ⟨⟨k + 1, by omega, by go_num, hide (O8.out.ext (Ext.drewN _ _)), hide (Ext.trans HX.out (Ext.drewN _ _))⟩, rfl⟩)
        case measure => simp [intOf]; omega
    · have hkn : k = N := by omega
      obtain ⟨A9, c9, hv9, a9⟩ := HO.out.at_ len64
      subst hkn
      subst hv9
      have i1 : ¬ x + ((k : Int) + 1) * 8 ≤ y := by omega
      clear a9
      go_wp2_with fail
      go_ret
      exact ⟨_, _, _, rfl, HO.out.more (by omega), Ext.trans (ext_alloc (Ext.alloc _ _) _) HX.out⟩
end Go.Proofs.Ytkbmgakehlmcnaa
namespace Go.Proofs.Ytkbmgakehlmcnaa
theorem listF_zero {z : Int} {l : List (Int × Int)} (h : listF l z = 0) : subsF l = 0 ∧ (0 < l.length → sumS l = z) := by
  unfold listF at h
  split at h
  · rename_i h2; exact absurd h h2
  · rename_i h2
    split at h
    · omega
    · rename_i h3
      refine ⟨Classical.not_not.1 h2, fun h4 => ?_⟩
      apply Classical.byContradiction; intro h5
      exact h3 ⟨h4, h5⟩
theorem chainS_le : ∀ (S : List (Int × Int)) {lo : Int}, chainS lo S → (lo ≤ endSK lo S) ∧ ∀ s ∈ S, s.2 ≤ endSK lo S
  | [], _, _ => ⟨Int.le_refl _, fun s hs => by simp at hs⟩
  | t :: r, lo, ⟨h1, h2, h3⟩ => by
    obtain ⟨i1, i2⟩ := chainS_le r h3
    refine ⟨by rw [endSK]; omega, fun s hs => ?_⟩
    rcases List.mem_cons.1 hs with rfl | hs
    · rw [endSK]; exact i1
    · rw [endSK]; exact i2 s hs
theorem parts_chain {l : List (Int × Int)} {z : Int} (h : listF l z = 0) (hz : 0 ≤ z) : chainS 0 (partsP l z) ∧ endSK 0 (partsP l z) ≤ z := by
  obtain ⟨h1, h2⟩ := listF_zero h
  obtain ⟨h3, h4⟩ := subsF_zero h1
  have hb := partP_bd h4 l.length (Nat.le_refl _)
  rw [List.take_length] at hb
  obtain ⟨b1, b2, b3, b4, b5, b6, b7, b8, b9⟩ := hb
  unfold partsP
  by_cases h0 : l.length = 0
  · rw [if_pos h0]
    exact ⟨⟨Int.le_refl _, hz, trivial⟩, Int.le_refl _⟩
  · rw [if_neg h0]
    exact ⟨b8, by rw [b9, b7, h2 (by omega)]; exact Int.le_refl _⟩
theorem parts_mem {l : List (Int × Int)} {z : Int} (h : listF l z = 0) (hz : 0 ≤ z) {p : Int × Int} (hp : p ∈ partsP l z) : 0 ≤ p.1 ∧ p.1 ≤ p.2 ∧ p.2 ≤ z := by
  obtain ⟨h1, h2⟩ := parts_chain h hz
  have h3 := chainS_ge _ h1 p hp
  have h4 := (chainS_le _ h1).2 p hp
  omega
theorem blkN_mem {c s x a : Int} : ∀ {N : Nat}, a ∈ blkN c s x N ↔ ∃ n : Nat, n < N ∧ selB2 c s n = true ∧ a = x + (n : Int) * 8
  | 0 => by simp [blkN]
  | N + 1 => by
    have ih := blkN_mem (c := c) (s := s) (x := x) (a := a) (N := N)
    rw [blkN]
    split
    · rename_i hs
      rw [List.mem_append, ih]
      constructor
      · rintro (⟨n, h1, h2, h3⟩ | h)
        · exact ⟨n, by omega, h2, h3⟩
        · simp at h; exact ⟨N, by omega, hs, h⟩
      · rintro ⟨n, h1, h2, h3⟩
        by_cases hn : n = N
        · subst hn; right; simp [h3]
        · left; exact ⟨n, by omega, h2, h3⟩
    · rename_i hs
      rw [ih]
      constructor
      · rintro ⟨n, h1, h2, h3⟩; exact ⟨n, by omega, h2, h3⟩
      · rintro ⟨n, h1, h2, h3⟩
        by_cases hn : n = N
        · subst hn; exact absurd h2 hs
        · exact ⟨n, by omega, h2, h3⟩
namespace Kc
def mixU (x : UInt32) : UInt32 := ((x <<< 4) ^^^ (x >>> 5)) + x
def word4 (b0 b1 b2 b3 : UInt8) : UInt32 := ((b0.toUInt32 <<< 24) ||| (b1.toUInt32 <<< 16)) ||| (b2.toUInt32 <<< 8) ||| b3.toUInt32
def wordL (l : List UInt8) : UInt32 := word4 (l.getD 0 0) (l.getD 1 0) (l.getD 2 0) (l.getD 3 0)
@[irreducible] def delta : UInt32 := 2654435769
theorem delta_nat : delta.toNat = 2654435769 := by unfold delta; rfl
def keyAt (k : List UInt8) (i : Nat) : UInt32 := wordL (k.drop (4 * i))
def addA (k : List UInt8) (b s : UInt32) : UInt32 := mixU b ^^^ (s + keyAt k (s &&& 3).toNat)
def addB (k : List UInt8) (a s : UInt32) : UInt32 := mixU a ^^^ (s + keyAt k ((s >>> 11) &&& 3).toNat)
def encN (d : UInt32) (k : List UInt8) : Nat → UInt32 → UInt32 → UInt32 → UInt32 × UInt32
  | 0, a, b, _ => (a, b)
  | n + 1, a, b, s => encN d k n (a + addA k b s) (b + addB k (a + addA k b s) (s + d)) (s + d)
def decN (d : UInt32) (k : List UInt8) : Nat → UInt32 → UInt32 → UInt32 → UInt32 × UInt32
  | 0, a, b, _ => (a, b)
  | n + 1, a, b, s => decN d k n (a - addA k (b - addB k a s) (s - d)) (b - addB k a s) (s - d)
def sumN (d : UInt32) : Nat → UInt32
  | 0 => 0
  | n + 1 => sumN d n + d
theorem encN_succ (d : UInt32) (k : List UInt8) (n : Nat) (a b s : UInt32) : encN d k (n + 1) a b s = encN d k n (a + addA k b s) (b + addB k (a + addA k b s) (s + d)) (s + d) := by rw [encN]
theorem decN_succ (d : UInt32) (k : List UInt8) (n : Nat) (a b s : UInt32) : decN d k (n + 1) a b s = decN d k n (a - addA k (b - addB k a s) (s - d)) (b - addB k a s) (s - d) := by rw [decN]
def bytes4 (a : UInt32) : List UInt8 := [(a >>> 24).toUInt8, (a >>> 16).toUInt8, (a >>> 8).toUInt8, a.toUInt8]
def bytes8 (a b : UInt32) : List UInt8 := bytes4 a ++ bytes4 b
def encB (k b : List UInt8) : List UInt8 := let r := encN delta k 16 (wordL b) (wordL (b.drop 4)) 0; bytes8 r.1 r.2
def decB (k b : List UInt8) : List UInt8 := let r := decN delta k 16 (wordL b) (wordL (b.drop 4)) (sumN delta 16); bytes8 r.1 r.2
end Kc
end Go.Proofs.Ytkbmgakehlmcnaa
namespace Go.Proofs.Ytkbmgakehlmcnaa
open Go.RowKit Kc
theorem u32_xor (a b : UInt32) : bits .xor .u32 (a.toNat : Int) (b.toNat : Int) = ((a ^^^ b).toNat : Int) := by
  rw [u32_xor_nat _ _ (u32lt a) (u32lt b), UInt32.toNat_xor]
theorem u32_or (a b : UInt32) : bits .or .u32 (a.toNat : Int) (b.toNat : Int) = ((a ||| b).toNat : Int) := by
  rw [u32_or_nat _ _ (u32lt a) (u32lt b), UInt32.toNat_or]
theorem u32_and (a b : UInt32) : bits .and .u32 (a.toNat : Int) (b.toNat : Int) = ((a &&& b).toNat : Int) := by
  rw [u32_and_nat _ _ (u32lt a) (u32lt b), UInt32.toNat_and]
theorem u32_add (a b : UInt32) : ((a.toNat : Int) + (b.toNat : Int)) % (4294967296 : Int) = ((a + b).toNat : Int) := by
  rw [UInt32.toNat_add]; omega
theorem u32_sub (a b : UInt32) : ((a.toNat : Int) - (b.toNat : Int)) % (4294967296 : Int) = ((a - b).toNat : Int) := by
  have := u32lt a; have := u32lt b
  rw [UInt32.toNat_sub]; omega
theorem u32_shl4 (a : UInt32) : (a.toNat : Int) * (16 : Int) % (4294967296 : Int) = ((a <<< 4).toNat : Int) := by
  rw [UInt32.toNat_shiftLeft]; simp [Nat.shiftLeft_eq]
theorem u32_shr5 (a : UInt32) : (a.toNat : Int) / (32 : Int) = ((a >>> 5).toNat : Int) := by
  rw [UInt32.toNat_shiftRight]; simp [Nat.shiftRight_eq_div_pow]
theorem u32_shr11 (a : UInt32) : (a.toNat : Int) / (2048 : Int) = ((a >>> 11).toNat : Int) := by
  rw [UInt32.toNat_shiftRight]; simp [Nat.shiftRight_eq_div_pow]
theorem u32_of8 (x : UInt8) : (x.toNat : Int) % (4294967296 : Int) = ((x.toUInt32).toNat : Int) := by
  have := u8lt x; rw [UInt8.toNat_toUInt32]; omega
theorem u32_shl24 (x : UInt32) : (x.toNat : Int) * (16777216 : Int) % (4294967296 : Int) = ((x <<< 24).toNat : Int) := by
  rw [UInt32.toNat_shiftLeft]; simp [Nat.shiftLeft_eq]
theorem u32_shl16 (x : UInt32) : (x.toNat : Int) * (65536 : Int) % (4294967296 : Int) = ((x <<< 16).toNat : Int) := by
  rw [UInt32.toNat_shiftLeft]; simp [Nat.shiftLeft_eq]
theorem u32_shl8 (x : UInt32) : (x.toNat : Int) * (256 : Int) % (4294967296 : Int) = ((x <<< 8).toNat : Int) := by
  rw [UInt32.toNat_shiftLeft]; simp [Nat.shiftLeft_eq]
theorem mix_any (x : UInt32) (w : World) :
    Calls Try.prog 62 #[.int .u32 (x.toNat : Int)] w fun e w' => e = .returned (.int .u32 ((mixU x).toNat : Int)) ∧ w = w' := by
  go_enter Try.func62, Try.ntmps62
  go_wp2
  go_ret
  exact ⟨ret_int (by rw [u32_shl4, u32_shr5, u32_xor, u32_add]; rfl), rfl⟩
theorem word_cells (b off : Nat) (n c : Nat) (b0 b1 b2 b3 : UInt8) (w : World) (hn : 4 ≤ n) (hn2 : n ≤ 9223372036854775807)
    (h0 : w.cell? ⟨b, off, none⟩ = some (B8 b0)) (h1 : w.cell? ⟨b, off + 1, none⟩ = some (B8 b1))
    (h2 : w.cell? ⟨b, off + 2, none⟩ = some (B8 b2)) (h3 : w.cell? ⟨b, off + 3, none⟩ = some (B8 b3)) :
    Calls Try.prog 61 #[.slice (some ⟨b, off, none⟩) n c] w fun e w' => e = .returned (.int .u32 ((word4 b0 b1 b2 b3).toNat : Int)) ∧ ∃ n, w' = w.drewN n := by
  have i0 : (0:Int) < (n : Int) := by omega
  have i1 : (1:Int) < (n : Int) := by omega
  have i2 : (2:Int) < (n : Int) := by omega
  have i3 : (3:Int) < (n : Int) := by omega
  go_enter Try.func61, Try.ntmps61
  go_wp2_with fail
  go_quiet (fail)
  go_wp2
  go_ret
  refine ⟨ret_int ?_, _, rfl⟩
  rw [u32_of8, u32_of8, u32_of8, u32_of8, u32_shl24, u32_shl16, u32_shl8, u32_or, u32_or, u32_or]; rfl
theorem word_any {A : Option Addr} {n c : Nat} {l : List UInt8} {w : World} (h : At w 1 e8 A n c l) (hn : 4 ≤ n) :
    Calls Try.prog 61 #[.slice A n c] w fun e w' => e = .returned (.int .u32 ((wordL l).toNat : Int)) ∧ ∃ n, w' = w.drewN n := by
  obtain ⟨b, off, rfl, hc⟩ := h.addr (by omega)
  have hl := h.len
  have g : ∀ k (hk : k < n), w.cell? ⟨b, off + k, none⟩ = some (B8 (l.getD k 0)) := fun k hk => by
    have := hc k (by omega) 0 _ rfl
    rw [show l.getD k 0 = l[k] by simp [List.getD, show k < l.length by omega]]
    simpa using this
  exact word_cells b off n c _ _ _ _ w hn h.bound (g 0 (by omega)) (g 1 (by omega)) (g 2 (by omega)) (g 3 (by omega))
end Go.Proofs.Ytkbmgakehlmcnaa
