/- Walks: addSpan, blocks. Conditions as stated. -/
import Derived.Test.YtifmgngmkajahaaSchemesB
namespace Go.Proofs.Ytifmgngmkajahaa
open Go.RowKit

/-- What addSpan leaves: the list, owned; only its own row has turned. -/
def AddPost (w : World) (base : Nat) (v : Value) (R : List (Int × Int)) (e : Ending) (w' : World) : Prop :=
  ∃ A m c, e = .returned (.slice A m c) ∧ Own w' base 33 2 e2 (.slice A m c) R ∧ w.grownBy w' v.ownBlock ∧ w.heap.size ≤ w'.heap.size
theorem grownSet (w : World) (g i : Nat) (v : Value) : w.grownBy (w.setCell ⟨g, i, none⟩ v) (some g) :=
  ⟨rfl, rfl, rfl, by simp [World.setCell], fun k _ hk => Below.heap_setCell w _ _ k (fun e => hk (by rw [e]))⟩
theorem add_last {R : List (Int × Int)} {x y : Int} {m : Nat} (hm : m = R.length) (h : x < y) (h0 : 0 < m) (h2 : (R.getD (m - 1) (0, 0)).2 = x) : addS R (x, y) = R.set (m - 1) ((R.getD (m - 1) (0, 0)).1, y) := by
  subst hm
  rw [addS_ext h ⟨List.length_pos_iff.1 h0, h2⟩]; rfl
theorem add_new {R : List (Int × Int)} {x y : Int} {m : Nat} (hm : m = R.length) (h : x < y) (h2 : ¬ (0 < m ∧ (R.getD (m - 1) (0, 0)).2 = x)) : addS R (x, y) = R ++ [(x, y)] := by
  subst hm
  rw [addS_new h]
  rintro ⟨h3, h4⟩
  exact h2 ⟨List.length_pos_iff.2 h3, h4⟩

set_option maxRecDepth 100000 in
set_option maxHeartbeats 4000000 in
theorem addSpan_any {base : Nat} {A : Option Addr} {m c : Nat} {R : List (Int × Int)} {w : World} (h : Own w base 33 2 e2 (.slice A m c) R) (hb : base ≤ w.heap.size) (hm : m ≤ 100000000) (x y : Int) :
    Calls Try.prog 104 #[.slice A m c, .agg #[.int .i64 x, .int .i64 y]] w (AddPost w base (.slice A m c) (addS R (x, y))) := by
  obtain ⟨i0, hi0, hz0, hz1, hz2⟩ := info_parts Try.info33
  have hlen : m = R.length := (h.len len_e2).symm
  have HLN := hide hlen
  by_cases hxy : y ≤ x
  · have HQ : Hid (addS R (x, y) = R) := hide (by unfold addS; rw [if_pos hxy])
    have HO := hide (h.ext (Ext.alloc w (.cells #[.int .i64 x, .int .i64 y] 33)))
    clear h hlen
    go_enter Try.func104, Try.ntmps104
    go_wp2_with fail
    go_ret
    exact ⟨A, m, c, rfl, by rw [HQ.out]; exact HO.out, ext_grown (Ext.alloc _ _) _, by simp⟩
  have hxy' : x < y := by omega
  have O1 := hide (h.ext (Ext.alloc w (.cells #[.int .i64 x, .int .i64 y] 33)))
  have i2 : IntKind.i64.wrap ((m : Int) - 1) = (m : Int) - 1 := by rw [IntKind.wrap_i64]; omega
  by_cases hm0 : 0 < m
  · obtain ⟨g, rfl, hg1, hg2⟩ := h.where2 hm0
    obtain ⟨b1, b2⟩ := (O1.out.atS len_e2).pair (k := m - 1) (by omega)
    have hfz := O1.out.frozen2
    simp only [Nat.zero_add] at b1 b2
    have i1 : (0 : Int) < (m : Int) := by omega
    have i1' : decide ((0 : Int) < (m : Int)) = true := by simp; omega
    have i3 : ((m : Int) - 1).toNat = m - 1 := by omega
    have i4 : 0 ≤ (m : Int) - 1 := by omega
    have i5 : (m : Int) - 1 < (m : Int) := by omega
    have i6 : 1 ≤ (m : Int) := by omega
    by_cases hc : (R.getD (m - 1) (0, 0)).2 = x
    · have HQ := hide (add_last hlen hxy' hm0 hc)
      generalize (R.getD (m - 1) (0, 0)).2 = t1 at *
      have j1 : (t1 == x) = true := by simp [hc]
      clear h hlen hc hxy
      go_enter Try.func104, Try.ntmps104
      go_wp2_with fail
      go_quiet (fail)
      have O2 := hide (O1.out.ext (Ext.drewN _ nq))
      have HS := hide (O2.out.setB (m - 1) y)
      go_wp2_with fail
      go_ret
      exact ⟨_, m, c, rfl, by rw [HQ.out]; exact HS.out, (ext_grown (Ext.trans (Ext.alloc _ _) (Ext.drewN _ _)) _).trans (grownSet _ _ _ _), by simp [World.setCell]⟩
    · have HQ := hide (add_new hlen hxy' (fun h => hc h.2))
      generalize (R.getD (m - 1) (0, 0)).2 = t1 at *
      have j1 : (t1 == x) = false := by simp [hc]
      clear h hlen hc hxy
      go_enter Try.func104, Try.ntmps104
      go_wp2_with fail
      go_quiet (fail)
      have A7 := hide (At.pair1 ((w.alloc (.cells #[.int .i64 x, .int .i64 y] 33)).drewN nq) x y 33)
      have O7 := hide ((O1.out.ext (Ext.drewN _ nq)).ext (Ext.alloc _ (.cells #[.int .i64 x, .int .i64 y] 33)))
      have hs7 : ((w.alloc (.cells #[.int .i64 x, .int .i64 y] 33)).drewN nq).heap.size = w.heap.size + 1 := by simp
      rw [hs7] at A7
      go_wp2_with (at_builtin; refine wpList_append_at _ rfl (.tmp 35) (.tmp 37) 58 rfl base 33 i0 _ 16 Try.underlying58 hi0 hz0 hz1 hz2 rfl (by omega) len_e2 one_e2 _ R rfl O7.out (some ⟨w.heap.size + 1, 0, none⟩) 1 1 [(x, y)] rfl A7.out ?d1 ?d2 ?d3 ?_)
      case d1 => rw [← HLN.out]; unfold maxLen; omega
      case d2 => rw [← HLN.out]; omega
      case d3 => simp; omega
      intro v8 w8 o8 g8 _ _
      obtain ⟨A8, c8, hv8, a8⟩ := o8.at_ len_e2
      subst hv8
      have O8 := hide o8
      have G8 := hide g8
      clear o8 g8 a8 A7 O7
      go_wp2_with fail
      go_ret
      exact ⟨_, _, _, rfl, by rw [HQ.out]; exact O8.out, (ext_grown (Ext.trans (Ext.trans (Ext.alloc _ _) (Ext.drewN _ _)) (Ext.alloc _ _)) _).trans G8.out, by have := G8.out.size; simp at this; omega⟩
  · obtain rfl : m = 0 := by omega
    have HQ := hide (add_new hlen hxy' (fun h => absurd h.1 (by omega)))
    clear h hlen hxy hm0
    go_enter Try.func104, Try.ntmps104
    go_wp2_with fail
    go_quiet (fail)
    have A7 := hide (At.pair1 ((w.alloc (.cells #[.int .i64 x, .int .i64 y] 33)).drewN nq) x y 33)
    have O7 := hide ((O1.out.ext (Ext.drewN _ nq)).ext (Ext.alloc _ (.cells #[.int .i64 x, .int .i64 y] 33)))
    have hs7 : ((w.alloc (.cells #[.int .i64 x, .int .i64 y] 33)).drewN nq).heap.size = w.heap.size + 1 := by simp
    rw [hs7] at A7
    go_wp2_with (at_builtin; refine wpList_append_at _ rfl (.tmp 35) (.tmp 37) 58 rfl base 33 i0 _ 16 Try.underlying58 hi0 hz0 hz1 hz2 rfl (by omega) len_e2 one_e2 _ R rfl O7.out (some ⟨w.heap.size + 1, 0, none⟩) 1 1 [(x, y)] rfl A7.out ?d1 ?d2 ?d3 ?_)
    case d1 => rw [← HLN.out]; unfold maxLen; omega
    case d2 => rw [← HLN.out]; omega
    case d3 => simp; omega
    intro v8 w8 o8 g8 _ _
    obtain ⟨A8, c8, hv8, a8⟩ := o8.at_ len_e2
    subst hv8
    have O8 := hide o8
    have G8 := hide g8
    clear o8 g8 a8 A7 O7
    go_wp2_with fail
    go_ret
    exact ⟨_, _, _, rfl, by rw [HQ.out]; exact O8.out, (ext_grown (Ext.trans (Ext.trans (Ext.alloc _ _) (Ext.drewN _ _)) (Ext.alloc _ _)) _).trans G8.out, by have := G8.out.size; simp at this; omega⟩

def selB2 (c s : Int) (k : Nat) : Bool := decide (c = 0) || decide ((k : Int) % (c + s) < c)
/-- The whole blocks of a part that are encrypted, of the first so many. -/
def blkN (c s x : Int) : Nat → List Int
  | 0 => []
  | k + 1 => if selB2 c s k = true then blkN c s x k ++ [x + (k : Int) * 8] else blkN c s x k
theorem length_blkN (c s x : Int) : ∀ k, (blkN c s x k).length ≤ k
  | 0 => Nat.le_refl _
  | k + 1 => by
    have := length_blkN c s x k
    unfold blkN
    split <;> simp <;> omega
set_option maxRecDepth 100000 in
set_option maxHeartbeats 4000000 in
theorem blocks_any (w : World) (m c s x y : Int) (hc : 0 ≤ c ∧ c ≤ 10) (hs : 0 ≤ s ∧ s ≤ 10) (hx : 0 ≤ x) (hxy : x ≤ y) (hy : y ≤ 100000000) :
    Calls Try.prog 105 #[schV m c s, .agg #[.int .i64 x, .int .i64 y]] w fun e w' => ∃ A n k, e = .returned (.slice A n k) ∧ Own w' w.heap.size 3 1 e64 (.slice A n k) (blkN c s x ((y - x) / 8).toNat) ∧ Ext w w' := by
  obtain ⟨i0, hi0, hz0, hz1, hz2⟩ := info_parts infoInt
  obtain ⟨N, hN⟩ : ∃ N, N = ((y - x) / 8).toNat := ⟨_, rfl⟩
  rw [← hN]
  have hN1 : 8 * (N : Int) ≤ y - x := by omega
  have hN2 : y - x < 8 * (N : Int) + 8 := by omega
  clear hN
  go_enter Try.func105, Try.ntmps105
  go_wp2_with fail
  go_loopw [5, 6] (fun ro ri wr => ∃ k : Nat, k ≤ N ∧ ri = .int .i64 k ∧ Hid (Own wr (w.heap.size + 2) 3 1 e64 ro (blkN c s x k)) ∧ Hid (Ext ((w.alloc (.cells #[.int .i64 m, .int .i64 c, .int .i64 s] 57)).alloc (.cells #[.int .i64 x, .int .i64 y] 33)) wr)) (fun _ ri _ => N - (intOf ri).toNat)
  case atStart => exact ⟨0, by omega, rfl, hide (Own.nil _ _ _ _ _), hide (Ext.refl _)⟩
  case round =>
    obtain ⟨k, hk, rfl, HO, HX⟩ := hrel
    have B1 := ((Blk.new w 57 #[.int .i64 m, .int .i64 c, .int .i64 s]).alloc (.cells #[.int .i64 x, .int .i64 y] 33)).ext HX.out
    have B2 := (Blk.new (w.alloc (.cells #[.int .i64 m, .int .i64 c, .int .i64 s] 57)) 33 #[.int .i64 x, .int .i64 y]).ext HX.out
    rw [World.size_alloc] at B2
    have c1 := B1.cell 1; have c2 := B1.cell 2
    have s0 := B2.cell 0; have s1 := B2.cell 1
    simp only [List.getElem?_toArray, List.getElem?_cons_zero, List.getElem?_cons_succ] at c1 c2 s0 s1
    by_cases hlt : k < N
    · have hl7 := hide (length_blkN c s x k)
      have i1 : x + ((k : Int) + 1) * 8 ≤ y := by omega
      have hN := hide (HO.out.notAt (Nat.le_refl _))
      by_cases hsel : selB2 c s k = true
      · have hb : blkN c s x (k + 1) = blkN c s x k ++ [x + (k : Int) * 8] := by rw [blkN, if_pos hsel]
        have HB := hide hb
        have HSEL := hide hsel
        generalize blkN c s x k = bl at *
        by_cases hc0 : c = 0
        · have j1 : (c == 0) = true := by simp [hc0]
          clear hb hsel hc0
          go_wp2_with fail
          go_quiet (fail)
          have A7 := hide (At.int1 (wr.drewN nq) (x + (k : Int) * 8) 3)
          have O7 := hide ((HO.out.ext (Ext.drewN _ nq)).ext (Ext.alloc _ (.cells #[.int .i64 (x + (k : Int) * 8)] 3)))
          have E7 := hide (Ext.trans (Ext.trans HX.out (Ext.drewN _ nq)) (Ext.alloc _ (.cells #[.int .i64 (x + (k : Int) * 8)] 3)))
          have hs7 : (wr.drewN nq).heap.size = wr.heap.size := rfl
          rw [hs7] at A7
          go_wp2_with (at_builtin; refine wpList_append_at _ rfl (.tmp 33) (.tmp 39) 34 rfl (w.heap.size + 2) 3 i0 _ 8 Try.underlying34 hi0 hz0 hz1 hz2 rfl (by omega) len64 one64 _ bl rfl O7.out (some ⟨wr.heap.size, 0, none⟩) 1 1 [x + (k : Int) * 8] rfl A7.out ?d1 ?d2 ?d3 ?_)
          case d1 => have := hl7.out; unfold maxLen; omega
          case d2 => have := hl7.out; omega
          case d3 => have := E7.out.size; simp at this ⊢; omega
          intro v8 w8 o8 g8 _ _
          have E8 := hide (O7.out.below E7.out g8 (by simp))
          have O8 : Hid (Own w8 (w.heap.size + 2) 3 1 e64 v8 (blkN c s x (k + 1))) := hide (by rw [HB.out]; exact o8)
          clear o8 g8 O7 E7 A7
          go_wp2
          go_roundw
          case rel =>
            first
              | exact ⟨k + 1, by omega, by go_num, O8, E8⟩
              | ((repeat apply Exists.intro); exact ⟨⟨k + 1, by omega, by go_num, O8, E8⟩, rfl⟩)
          case measure => simp [intOf]; omega
        · have j1 : (c == 0) = false := by simp [hc0]
          have j2 : 1 ≤ c + s := by omega
          have j3 : IntKind.i64.wrap (c + s) = c + s := by rw [IntKind.wrap_i64]; omega
          have j4 : decide ((k : Int) % (c + s) < c) = true := by
            unfold selB2 at hsel
            simpa [hc0] using hsel
          have j5 : decide ((k : Int).tmod (c + s) < c) = true := by rw [Int.tmod_eq_emod_of_nonneg (by omega)]; exact j4
          have j6 : c + s ≠ 0 := by omega
          clear hb hsel hc0
          go_wp2_with fail
          go_quiet (fail)
          have A7 := hide (At.int1 (wr.drewN nq) (x + (k : Int) * 8) 3)
          have O7 := hide ((HO.out.ext (Ext.drewN _ nq)).ext (Ext.alloc _ (.cells #[.int .i64 (x + (k : Int) * 8)] 3)))
          have E7 := hide (Ext.trans (Ext.trans HX.out (Ext.drewN _ nq)) (Ext.alloc _ (.cells #[.int .i64 (x + (k : Int) * 8)] 3)))
          have hs7 : (wr.drewN nq).heap.size = wr.heap.size := rfl
          rw [hs7] at A7
          go_wp2_with (at_builtin; refine wpList_append_at _ rfl (.tmp 33) (.tmp 39) 34 rfl (w.heap.size + 2) 3 i0 _ 8 Try.underlying34 hi0 hz0 hz1 hz2 rfl (by omega) len64 one64 _ bl rfl O7.out (some ⟨wr.heap.size, 0, none⟩) 1 1 [x + (k : Int) * 8] rfl A7.out ?d1 ?d2 ?d3 ?_)
          case d1 => have := hl7.out; unfold maxLen; omega
          case d2 => have := hl7.out; omega
          case d3 => have := E7.out.size; simp at this ⊢; omega
          intro v8 w8 o8 g8 _ _
          have E8 := hide (O7.out.below E7.out g8 (by simp))
          have O8 : Hid (Own w8 (w.heap.size + 2) 3 1 e64 v8 (blkN c s x (k + 1))) := hide (by rw [HB.out]; exact o8)
          clear o8 g8 O7 E7 A7
          go_wp2
          go_roundw
          case rel =>
            first
              | exact ⟨k + 1, by omega, by go_num, O8, E8⟩
              | ((repeat apply Exists.intro); exact ⟨⟨k + 1, by omega, by go_num, O8, E8⟩, rfl⟩)
          case measure => simp [intOf]; omega
      · have hb : blkN c s x (k + 1) = blkN c s x k := by rw [blkN, if_neg hsel]
        have hc0 : c ≠ 0 := fun h => hsel (by unfold selB2; simp [h])
        have j1 : (c == 0) = false := by simp [hc0]
        have j2 : 1 ≤ c + s := by omega
        have j3 : IntKind.i64.wrap (c + s) = c + s := by rw [IntKind.wrap_i64]; omega
        have j4 : decide ((k : Int) % (c + s) < c) = false := by
          unfold selB2 at hsel
          simpa [hc0] using hsel
        have j5 : decide ((k : Int).tmod (c + s) < c) = false := by rw [Int.tmod_eq_emod_of_nonneg (by omega)]; exact j4
        have j6 : c + s ≠ 0 := by omega
        have O8 := hide HO.out
        rw [← hb] at O8
        clear hb hsel hc0
        go_wp2_with fail
        go_quiet (fail)
        go_wp2
        go_roundw
        case rel =>
          first
            | exact ⟨k + 1, by omega, by go_num, hide (O8.out.ext (Ext.drewN _ _)), hide (Ext.trans HX.out (Ext.drewN _ _))⟩
            | ((repeat apply Exists.intro); exact ⟨⟨k + 1, by omega, by go_num, hide (O8.out.ext (Ext.drewN _ _)), hide (Ext.trans HX.out (Ext.drewN _ _))⟩, rfl⟩)
        case measure => simp [intOf]; omega
    · have hkn : k = N := by omega
      obtain ⟨A9, c9, hv9, a9⟩ := HO.out.at_ len64
      subst hkn
      subst hv9
      have i1 : ¬ x + ((k : Int) + 1) * 8 ≤ y := by omega
      clear a9
      go_wp2_with fail
      go_ret
      exact ⟨_, _, _, rfl, HO.out.more (by omega), Ext.trans (ext_alloc (Ext.alloc _ _) _) HX.out⟩
end Go.Proofs.Ytifmgngmkajahaa
