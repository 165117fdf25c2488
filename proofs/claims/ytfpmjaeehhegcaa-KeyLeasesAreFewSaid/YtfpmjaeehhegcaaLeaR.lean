/- Walks: Lease and Watching of the reference. Conditions: strings are no longer than strings can be. -/
import Derived.Test.YtfpmjaeehhegcaaAnsT
import Derived.Test.YtfpmjaeehhegcaaAwake
namespace Go.Proofs.Ytfpmjaeehhegcaa
open Go.RowKit

theorem seatEl_ok {L : List SeatV} {i : Nat} (h : seatEl L i = 0) : (0 ≤ (L.getD i d0S).2.1 ∧ (L.getD i d0S).2.1 ≤ 50) ∧ (1 ≤ (L.getD i d0S).2.2 ∧ (L.getD i d0S).2.2 ≤ 1000000000000000) := by
  unfold seatEl at h
  by_cases h1 : nameB (L.getD i d0S).1 = false
  · rw [if_pos h1] at h; omega
  rw [if_neg h1] at h
  by_cases h2 : 0 < i ∧ sLe (L.getD i d0S).1 (L.getD (i - 1) d0S).1 = true
  · rw [if_pos h2] at h; omega
  rw [if_neg h2] at h
  by_cases h3 : (L.getD i d0S).2.1 < 0 ∨ 50 < (L.getD i d0S).2.1 ∨ (L.getD i d0S).2.2 < 1 ∨ 1000000000000000 < (L.getD i d0S).2.2
  · rw [if_pos h3] at h; omega
  omega
theorem seatsF_ok {L : List SeatV} (h : seatsF L = 0) : ∀ x ∈ L, (0 ≤ x.2.1 ∧ x.2.1 ≤ 50) ∧ (1 ≤ x.2.2 ∧ x.2.2 ≤ 1000000000000000) := by
  unfold seatsF at h
  by_cases h1 : 200 < L.length
  · rw [if_pos h1] at h; omega
  rw [if_neg h1] at h
  intro x hx
  obtain ⟨j, hj, rfl⟩ := mem_getD d0S hx
  exact seatEl_ok (firstF_all h j hj)
theorem asksF_ok {L : List SeatV} {Q : List AskV} (h : asksF L Q = 0) : seatsF L = 0 ∧ Q.length ≤ 2000 ∧ ∀ i, i < Q.length → askEl Q i = 0 := by
  unfold asksF at h
  by_cases h1 : seatsF L ≠ 0
  · rw [if_pos h1] at h; exact absurd h h1
  rw [if_neg h1] at h
  by_cases h2 : 2000 < Q.length
  · rw [if_pos h2] at h; omega
  rw [if_neg h2] at h
  exact ⟨by omega, by omega, firstF_all h⟩
theorem askEl_ok {Q : List AskV} {i : Nat} (h : askEl Q i = 0) : (0 ≤ (Q.getD i d0A).1 ∧ (Q.getD i d0A).1 ≤ 1000000000000000) ∧ (nameB (Q.getD i d0A).2.1 = true ∧ nameB (Q.getD i d0A).2.2.1 = true) ∧
    (1 ≤ (Q.getD i d0A).2.2.2 ∧ (Q.getD i d0A).2.2.2 ≤ 3) ∧ (0 < i → (Q.getD (i - 1) d0A).1 ≤ (Q.getD i d0A).1) := by
  unfold askEl at h
  by_cases h1 : (Q.getD i d0A).1 < 0 ∨ 1000000000000000 < (Q.getD i d0A).1
  · rw [if_pos h1] at h; omega
  rw [if_neg h1] at h
  by_cases h2 : nameB (Q.getD i d0A).2.1 = false ∨ nameB (Q.getD i d0A).2.2.1 = false
  · rw [if_pos h2] at h; omega
  rw [if_neg h2] at h
  by_cases h3 : (Q.getD i d0A).2.2.2 < 1 ∨ 3 < (Q.getD i d0A).2.2.2
  · rw [if_pos h3] at h; omega
  rw [if_neg h3] at h
  by_cases h4 : 0 < i ∧ (Q.getD i d0A).1 < (Q.getD (i - 1) d0A).1
  · rw [if_pos h4] at h; omega
  simp only [not_or, Bool.not_eq_false] at h2
  exact ⟨by omega, h2, by omega, fun h0 => by omega⟩
theorem ansF_len (L : List SeatV) (hs : List HeldV) (a : AskV) : (ansF L hs a).2.length ≤ hs.length + 1 := by
  unfold ansF
  split
  · simp
  · split
    · split
      · simp
      · split <;> simp
    · split <;> simp
theorem heldsF_len (L : List SeatV) : ∀ (l : List AskV), (heldsF L l).length ≤ l.length := by
  intro l
  have : ∀ (l : List AskV) (hs : List HeldV), (l.foldl (fun hs a => (ansF L hs a).2) hs).length ≤ hs.length + l.length := by
    intro l
    induction l with
    | nil => intro hs; simp
    | cons a l ih =>
      intro hs
      have h1 := ih (ansF L hs a).2
      have h2 := ansF_len L hs a
      simp only [List.foldl_cons, List.length_cons]
      omega
  have h := this l []
  simpa [heldsF] using h
/-- All answers. -/
def leasesF (L : List SeatV) (Q : List AskV) : List (Int × Int) := (List.range Q.length).map fun i => (ansF L (heldsF L (Q.take i)) (Q.getD i d0A)).1
def leasesK (L : List SeatV) (Q : List AskV) (k : Nat) : List (Int × Int) := (List.range k).map fun i => (ansF L (heldsF L (Q.take i)) (Q.getD i d0A)).1
theorem leasesK_succ (L : List SeatV) (Q : List AskV) (k : Nat) : leasesK L Q (k + 1) = leasesK L Q k ++ [(ansF L (heldsF L (Q.take k)) (Q.getD k d0A)).1] := by
  unfold leasesK; rw [List.range_succ, List.map_append]; rfl
theorem heldsF_take {L : List SeatV} {Q : List AskV} {k : Nat} (hk : k < Q.length) : heldsF L (Q.take (k + 1)) = (ansF L (heldsF L (Q.take k)) (Q.getD k d0A)).2 := by
  rw [getD_take Q k d0A hk, heldsF_snoc]
theorem Try.info37 : (Try.prog.info? 37).map (fun i => (i.zero, i.size, i.bytes)) = some (some (.agg #[.int .i64 0, .int .i64 0]), 2, 16) := by kernel_rfl
def leaV (L : List SeatV) (Q : List AskV) : List (Int × Int) := if asksF L Q = 0 then leasesF L Q else []
set_option maxRecDepth 100000 in
set_option maxHeartbeats 4000000 in
theorem refLease_any {A B : Option Addr} {n c m d : Nat} {L : List SeatV} {Q : List AskV} {w : World} (h : At w 3 eS A n c L) (hg : ∀ x ∈ L, okS x) (h2 : At w 4 eA B m d Q) (hq : ∀ x ∈ Q, okA x) :
    Calls Try.prog 12 #[.slice A n c, .slice B m d] w (Gives 2 e2 w (leaV L Q) (asksF L Q)) := by
  obtain ⟨i0, hi0, hz0, hz1, hz2⟩ := info_parts Try.info37
  have HA := hide (refAsks_any h hg h2 hq)
  have H := hide h
  have H2 := hide h2
  have hb := h2.bound
  have HLN := hide h2.len
  clear h hg h2 hq
  unfold leaV
  by_cases hz : asksF L Q = 0
  rotate_left
  · rw [if_neg hz]
    have hb' : (asksF L Q != 0) = true := by rw [bne_iff_ne]; exact hz
    generalize asksF L Q = r at *
    clear hz
    go_enter Try.func12, Try.ntmps12
    go_wp2_with fail
    refine HA.out.mono ?_
    rintro e w1 ⟨rfl, e1⟩
    go_wp2_with fail
    go_ret2
    exact gives_nil _ e1
  rw [if_pos hz, hz]
  have ok := hide (asksF_ok hz)
  have HSG := hide (fun x hx => (seatsF_ok ok.out.1 x hx).2)
  have hm : m ≤ 2000 := by have := ok.out.2.1; have := HLN.out; omega
  rw [hz] at HA
  clear hz
  go_enter Try.func12, Try.ntmps12
  go_wp2_with fail
  refine HA.out.mono ?_
  rintro e w1 ⟨rfl, e1⟩
  have E1 := hide e1
  clear e1
  go_wp2_with fail
  go_loopw [7, 8, 21] (fun rl ro ri wr => ∃ k : Nat, k ≤ m ∧ ri = .int .i64 k ∧ Hid (∃ A' n' c', rl = .slice A' n' c' ∧ At wr 3 eHd A' n' c' (heldsF L (Q.take k)) ∧ ∀ a, A' = some a → some a.block ≠ ro.ownBlock ∧ a.block < wr.heap.size) ∧ Hid (Own wr w1.heap.size 37 2 e2 ro (leasesK L Q k)) ∧ Hid (Ext w1 wr)) (fun _ _ ri _ => m - (intOf ri).toNat)
  case atStart => exact ⟨0, by omega, rfl, hide ⟨none, 0, 0, rfl, by simpa [heldsF] using At.nil _ _ _, fun a h => by cases h⟩, hide (by simpa [leasesK] using Own.nil _ _ _ _ _), hide (Ext.refl _)⟩
  case round =>
    obtain ⟨k, hk, rfl, HL0, HO, HX⟩ := hrel
    obtain ⟨A', n', c', rfl, ha', hd'⟩ := HL0.out
    have HAH := hide ha'
    have HD := hide hd'
    clear ha' hd' HL0
    by_cases hlt : k < m
    rotate_left
    · obtain rfl : k = m := by omega
      have ho := HO.out
      rw [show leasesK L Q k = leasesF L Q by unfold leasesK leasesF; rw [HLN.out]] at ho
      obtain ⟨A3, c3, hv3, a3⟩ := ho.at_ len_e2
      subst hv3
      have P3 := hide a3
      clear a3 ho
      go_wp2
      go_ret2
      exact ⟨_, _, _, rfl, P3.out, Ext.trans E1.out HX.out⟩
    have HW := hide (Ext.trans E1.out HX.out)
    have hln : n' ≤ 3000 := by have h1 := HAH.out.len; have h3 := heldsF_len L (Q.take k); have h4 : (Q.take k).length ≤ k := List.length_take_le _ _; omega
    have HQ := hide (H2.out.ext HW.out)
    obtain ⟨b, off, rfl, _⟩ := H2.out.addr (by omega)
    have a0 := HQ.out.cellK hlt d0A 0 _ rfl
    have a1 := HQ.out.cellK hlt d0A 1 _ rfl
    have a2 := HQ.out.cellK hlt d0A 2 _ rfl
    have a3 := HQ.out.cellK hlt d0A 3 _ rfl
    simp only [Nat.add_zero] at a0
    have hel := askEl_ok (ok.out.2.2 k (by have := HLN.out; omega))
    have HTK := hide (heldsF_take (L := L) (Q := Q) (k := k) (by have := HLN.out; omega))
    have HLK := hide (leasesK_succ L Q k)
    have ht := hel.1
    generalize Q.getD k d0A = x at *
    obtain ⟨t, u, s, q⟩ := x
    simp only at a0 a1 a2 a3 ht
    have HAN := hide (fun (W : World) (hW : Ext wr W) => refAns_any (u := u) (s := s) (kd := q) (H.out.ext (Ext.trans HW.out hW)) (HAH.out.ext hW) ht HSG.out hln)
    have xl : (leasesK L Q k).length = k := by simp [leasesK]
    have S1 : Hid ((leasesK L Q k).length + 1 ≤ maxLen) := hide (by rw [xl]; unfold maxLen; omega)
    have S2 : Hid (((leasesK L Q k).length + 1) * 16 ≤ 140737488355328) := hide (by rw [xl]; omega)
    generalize ansF L (heldsF L (Q.take k)) (t, u, s, q) = an at *
    clear hel ht xl
    go_wp2_with fail
    refine (HAN.out _ (by repeat' (first | (with_reducible exact Below.refl _ _) | (with_reducible assumption) | (with_reducible refine below_drewN ?_ _) | (with_reducible refine Below.drew ?_) | (with_reducible refine ext_alloc ?_ _) | (with_reducible refine Below.setCell ?_ ?_ _) | go_size))).mono ?_
    rintro e w5 ⟨A5, n5, c5, rfl, a5, e5, hd5⟩
    have P5 := hide a5
    have E5 : Hid (Ext wr w5) := hide (Ext.trans (Ext.alloc _ _) e5)
    have HD5 : Hid (∀ a, A5 = some a → some a.block ≠ u8.ownBlock ∧ a.block < w5.heap.size) := hide (fun a ha => by
      rcases hd5 with hd5 | ⟨g, hg, hg1, hg2⟩
      · rw [hd5] at ha
        have := HD.out a ha
        exact ⟨this.1, by have := E5.out.size; omega⟩
      · rw [hg] at ha
        injection ha with ha
        subst ha
        refine ⟨fun h => ?_, hg2⟩
        have h1 := (HO.out.lt g h.symm).2
        rw [World.size_alloc] at hg1
        omega)
    clear e5 a5 hd5
    have A9 := hide (show At ((w5.alloc (.cells #[.int .i64 an.1.1, .int .i64 an.1.2] 37)).alloc (.cells #[.int .i64 an.1.1, .int .i64 an.1.2] 37)) 2 e2 (some ⟨w5.heap.size + 1, 0, none⟩) 1 1 [an.1] from by
      have := At.pair1 (w5.alloc (.cells #[.int .i64 an.1.1, .int .i64 an.1.2] 37)) an.1.1 an.1.2 37
      rw [World.size_alloc] at this
      exact this)
    go_wp2_with (at_builtin; (refine wpList_append_at _ rfl (.tmp 32) (.tmp 34) 24 rfl w1.heap.size 37 i0 _ 16 Try.underlying24 hi0 hz0 hz1 hz2 rfl (by omega) len_e2 one_e2 _ _ (by rfl) (HO.out.ext (Ext.trans E5.out (by repeat' (first | (with_reducible exact Below.refl _ _) | (with_reducible assumption) | (with_reducible refine below_drewN ?_ _) | (with_reducible refine Below.drew ?_) | (with_reducible refine ext_alloc ?_ _) | (with_reducible refine Below.setCell ?_ ?_ _) | go_size)))) (some ⟨w5.heap.size + 1, 0, none⟩) 1 1 [an.1] (by rfl) A9.out S1.out S2.out (Nat.le_trans (Ext.trans HX.out E5.out).size (by simp; omega)) ?_))
    intro v7 w7 o7 g7 _ hv7
    have O7 := hide o7
    have E7 := hide (Own.below (w0 := w1) (HO.out.ext (Ext.trans E5.out (by repeat' (first | (with_reducible exact Below.refl _ _) | (with_reducible assumption) | (with_reducible refine below_drewN ?_ _) | (with_reducible refine Below.drew ?_) | (with_reducible refine ext_alloc ?_ _) | (with_reducible refine Below.setCell ?_ ?_ _) | go_size)))) (Ext.trans (Ext.trans HX.out E5.out) (by repeat' (first | (with_reducible exact Below.refl _ _) | (with_reducible assumption) | (with_reducible refine below_drewN ?_ _) | (with_reducible refine Below.drew ?_) | (with_reducible refine ext_alloc ?_ _) | (with_reducible refine Below.setCell ?_ ?_ _) | go_size))) g7 (Nat.le_refl _))
    have P7 := hide ((P5.out.ext (w' := (w5.alloc (.cells #[.int .i64 an.1.1, .int .i64 an.1.2] 37)).alloc (.cells #[.int .i64 an.1.1, .int .i64 an.1.2] 37)) (by repeat' (first | (with_reducible exact Below.refl _ _) | (with_reducible assumption) | (with_reducible refine below_drewN ?_ _) | (with_reducible refine Below.drew ?_) | (with_reducible refine ext_alloc ?_ _) | (with_reducible refine Below.setCell ?_ ?_ _) | go_size))).grown g7 (fun a ha => (HD5.out a ha).1))
    have zz := g7.size
    simp only [World.size_alloc] at zz hv7
    have HD7 : Hid (∀ a, A5 = some a → some a.block ≠ v7.ownBlock ∧ a.block < w7.heap.size) := hide (fun a ha => by
      have h5 := HD5.out a ha
      refine ⟨?_, by omega⟩
      rcases hv7 with h | h
      · rw [h]; exact h5.1
      · rw [h]
        intro h6
        injection h6 with h6
        omega)
    clear o7 g7 hv7 zz
    go_wp2_with fail
    go_roundw
    case rel => exact ⟨k + 1, by omega, by go_num, hide ⟨_, _, _, rfl, by rw [HTK.out]; exact P7.out, HD7.out⟩, hide (by rw [HLK.out]; exact O7.out), E7⟩
    case measure => simp [intOf]; omega
end Go.Proofs.Ytfpmjaeehhegcaa
