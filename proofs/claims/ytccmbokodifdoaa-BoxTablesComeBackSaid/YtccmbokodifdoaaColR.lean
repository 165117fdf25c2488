/- Walk: column of the reference's reader. Conditions as stated. -/
import Derived.Test.YtccmbokodifdoaaRdrA
import Derived.Test.YtccmbokodifdoaaRfP
import Derived.Test.YtccmbokodifdoaaTree
namespace Go.Proofs.Ytccmbokodifdoaa
open Go.RowKit
def conV (sign : Bool) (v : Nat) : Int := if sign = true then sgn4 v else (v : Int)
theorem sgnR4 {b : List UInt8} {s : Rd} : sgnR (tkL b 4 s) = sgn4 (rdN b 4 s).1 := by
  have hl : (tkL b 4 s).length = 4 := tkL_len
  have hlt := numB_lt 4 _ hl
  have h4 : (256 : Nat) ^ 4 = 4294967296 := by decide
  unfold sgnR sgn4
  rw [← tkL_num, hl]
  by_cases h : 2147483648 ≤ numB (tkL b 4 s)
  · rw [if_pos ⟨rfl, h⟩, if_neg (by omega)]
  · rw [if_neg (fun hc => h hc.2), if_pos (by omega), IntKind.wrap_i64]; omega
theorem badI_neg (s : Rd) : (badI s < 0) ↔ s.bad = false := by unfold badI; cases s.bad <;> simp
theorem RdrB.tw {w w' : World} {rb : Nat} {A : Option Addr} {n c : Nat} {s : Rd} {o : Nat} {row : Option Nat} (h : RdrB w rb A n c s) (ht : Tw w w' o row) (h1 : rb ≠ o) (h2 : some rb ≠ row) : RdrB w' rb A n c s := by
  obtain ⟨p, hb, hp⟩ := h
  exact ⟨p, ht.blk hb h1 h2, hp⟩
theorem RdrB.ext {w w' : World} {rb : Nat} {A : Option Addr} {n c : Nat} {s : Rd} (h : RdrB w rb A n c s) (he : Ext w w') : RdrB w' rb A n c s := by
  obtain ⟨p, hb, hp⟩ := h
  exact ⟨p, hb.ext he, hp⟩
theorem RdrB.grown {w w' : World} {rb : Nat} {A : Option Addr} {n c : Nat} {s : Rd} {row : Option Nat} (h : RdrB w rb A n c s) (hg : w.grownBy w' row) (h2 : some rb ≠ row) : RdrB w' rb A n c s := by
  obtain ⟨p, hb, hp⟩ := h
  exact ⟨p, hb.grown hg h2, hp⟩
theorem RdrB.lt {w : World} {rb : Nat} {A : Option Addr} {n c : Nat} {s : Rd} (h : RdrB w rb A n c s) : rb < w.heap.size := by
  obtain ⟨p, hb, hp⟩ := h
  exact hb.lt
theorem Try.info3 : (Try.prog.info? 3).map (fun i => (i.zero, i.size, i.bytes)) = some (some (.int .i64 0), 1, 8) := by kernel_rfl
/-- What column gives. -/
def ColGives (w : World) (rb : Nat) (A : Option Addr) (n c : Nat) (b : List UInt8) (one sign : Bool) (m : Nat) (s : Rd) (e : Ending) (w' : World) : Prop :=
  ∃ T k tc, e = .returned (.slice T k tc) ∧ RdrB w' rb A n c (colF b one m s).2 ∧ Tw w w' rb none ∧ ((colF b one m s).2.bad = false → At w' 1 e64 T k tc ((colF b one m s).1.map (conV sign))) ∧ ∀ a, T = some a → w.heap.size ≤ a.block
set_option linter.unusedVariables false in
set_option maxRecDepth 100000 in
set_option maxHeartbeats 8000000 in
theorem column_any {rb : Nat} {A : Option Addr} {n c m : Nat} {b : List UInt8} {s : Rd} {one sign : Bool} {w : World} (hB : RdrB w rb A n c s) (h : At w 1 e8 A n c b) (hne : 0 < n → ∀ a, A = some a → a.block ≠ rb) (hp : s.pos ≤ n) (hm : m < 65536) :
    Calls Try.prog 66 #[.pointer (some ⟨rb, 0, none⟩), .int .i64 (m : Int), .bool one, .bool sign] w (ColGives w rb A n c b one sign m s) := by
  have HB := hide hB
  have H := hide h
  have HL := hide h.len
  have HNE := hide hne
  have hrb := hB.lt
  have HPOS := hide (fun (k : Nat) => (by have := colF_pos (b := b) (one := one) (s := s) (by rw [h.len]; exact hp) k; rwa [h.len] at this : (colF b one k s).2.pos ≤ n))
  obtain ⟨i0_, hi0, hz0, hz1, hz2⟩ := info_parts Try.info3
  clear hB h hne
  go_enter Try.func66, Try.ntmps66
  go_wp2_with fail
  go_loopw [9, 10] (fun r9 ri wr => ∃ k : Nat, k ≤ m ∧ ri = .int .i64 k ∧ Hid (Own wr w.heap.size 3 1 e64 r9 ((colF b one k s).1.map (conV sign))) ∧ Hid (RdrB wr rb A n c (colF b one k s).2) ∧ Hid (Tw w wr rb none)) (fun _ ri _ => m - (intOf ri).toNat)
  case atStart => exact ⟨0, by omega, rfl, hide (Own.nil _ _ _ _ _), HB, hide (Tw.refl _ _ _)⟩
  case round =>
    obtain ⟨k, hk, rfl, HO, HR, HT⟩ := hrel
    obtain ⟨p0, hbk, _⟩ := HR.out
    have c2 : wr.cell? ⟨rb, 2, none⟩ = some (.int .i64 (badI (colF b one k s).2)) := hbk.cell 2
    have HBN := hide (badI_neg (colF b one k s).2)
    clear hbk
    go_upto_region 3 with (fail)
    go_cut [21] (fun sc wx => ∃ go : Bool, sc = .bool go ∧ wx = wr ∧ Hid (go = decide (k < m ∧ (colF b one k s).2.bad = false)))
    case first =>
      by_cases hlt : k < m
      · have i0 : (k : Int) < (m : Int) := by omega
        have i1 : decide ((k : Int) < (m : Int)) = true := by simp; omega
        have i2 : decide (k < m) = true := by simp; omega
        obtain ⟨bi, hbi⟩ : ∃ bi, bi = badI (colF b one k s).2 := ⟨_, rfl⟩
        rw [← hbi] at c2 HBN
        have HG : Hid (decide (bi < 0) = decide (k < m ∧ (colF b one k s).2.bad = false)) := hide (by rw [Bool.eq_iff_iff, decide_eq_true_iff, decide_eq_true_iff, HBN.out]; exact ⟨fun h => ⟨hlt, h⟩, fun h => h.2⟩)
        clear hbi
        go_wp2_with fail
        go_meet
        exact ⟨_, rfl, rfl, HG⟩
      · have i0 : ¬ (k : Int) < (m : Int) := by omega
        have i1 : decide ((k : Int) < (m : Int)) = false := by simp; omega
        have i2 : decide (k < m) = false := by simp; omega
        have HG : Hid (false = decide (k < m ∧ (colF b one k s).2.bad = false)) := hide (by symm; rw [decide_eq_false_iff_not]; exact fun h => hlt h.1)
        go_wp2_with fail
        go_meet
        exact ⟨false, rfl, rfl, HG⟩
    case rest =>
    obtain ⟨go, rfl, rfl, HG⟩ := hcut
    clear c2 HBN
    cases go with
    | true =>
      have hg : k < m ∧ (colF b one k s).2.bad = false := by have := HG.out; exact of_decide_eq_true this.symm
      have hlt := hg.1
      have hlk : ((colF b one k s).1.map (conV sign)).length = k := by rw [List.length_map, colF_len]
      have HLK := hide hlk
      have i8 : IntKind.i64.wrap ((k : Int) + 1) = (k : Int) + 1 := by rw [IntKind.wrap_i64]; omega
      have S1 : Hid (((colF b one k s).1.map (conV sign)).length + 1 ≤ maxLen) := hide (by rw [hlk]; unfold maxLen; omega)
      have S2 : Hid ((((colF b one k s).1.map (conV sign)).length + 1) * 8 ≤ 140737488355328) := hide (by rw [hlk]; omega)
      have HRL := HO.out.lt
      have HNR : Hid (∀ g, u9.ownBlock = some g → w.heap.size ≤ g ∧ g ≠ rb) := hide (fun g hg => ⟨(HRL g hg).1, by have := (HRL g hg).1; omega⟩)
      have HTS := HT.out.size
      clear hg HG hlk HRL
      by_cases hone : one = true ∧ 0 < k
      · obtain ⟨h1, hk0⟩ := hone
        have HSU : Hid ((colF b one (k + 1) s).1 = (colF b one k s).1 ++ [(colF b one k s).1.getD 0 0] ∧ (colF b one (k + 1) s).2 = (colF b one k s).2) := hide (by rw [colF, if_pos ⟨hk0, h1⟩]; exact ⟨rfl, rfl⟩)
        obtain ⟨vA, vc, hv, hat⟩ := HO.out.at_ len_e64
        rw [HLK.out] at hv hat
        obtain ⟨bb, oo, rfl, _⟩ := hat.addr hk0
        have x0 := hat.num hk0
        rw [Nat.add_zero] at x0
        have e0 : ((colF b one k s).1.map (conV sign)).getD 0 0 = conV sign ((colF b one k s).1.getD 0 0) := by
          have hl := colF_len b one s k
          rw [List.getD_eq_getElem?_getD, List.getElem?_map, List.getD_eq_getElem?_getD, List.getElem?_eq_getElem (by omega)]; rfl
        rw [e0] at x0
        have HSV : Hid ((colF b one (k + 1) s).1.map (conV sign) = (colF b one k s).1.map (conV sign) ++ [conV sign ((colF b one k s).1.getD 0 0)]) := hide (by rw [HSU.out.1, List.map_append]; rfl)
        generalize conV sign ((colF b one k s).1.getD 0 0) = xv at *
        have d0 : decide ((0 : Int) < (k : Int)) = true := by simp; omega
        have d1 : decide (0 < k) = true := by simp; omega
        have i7 : (0 : Int) < (k : Int) := by omega
        subst h1
        subst hv
        have S3 : Hid (w.heap.size ≤ (wc.alloc (.cells #[.int .i64 xv] 3)).heap.size) := hide (by rw [World.size_alloc]; omega)
        clear e0 hat hk0
        go_wp2_with (at_builtin; refine wpList_append_at _ rfl (.tmp 29) (.tmp 33) 34 rfl w.heap.size 3 i0_ _ 8 Try.underlying34 hi0 hz0 hz1 hz2 rfl (by omega) len_e64 one_e64 _ _ (by rfl) (HO.out.ext (Ext.alloc _ _)) (some ⟨wc.heap.size, 0, none⟩) 1 1 [xv] (by rfl) (At.new1 wc xv _ rfl _) S1.out S2.out S3.out ?_; intro v7 w7 o7 g7 _ _; have O7 := hide o7; have G7 := hide g7; clear o7 g7)
        exact ⟨⟨k + 1, by omega, by go_num, hide (by rw [HSV.out]; exact O7.out), hide (by rw [HSU.out.2]; exact (HR.out.ext (Ext.alloc _ _)).grown G7.out (fun e => (HNR.out rb e.symm).2 rfl)), hide ((HT.out.trans (Tw.of_ext (Ext.alloc _ _) _ _)).row G7.out (fun g hg => .inl (HNR.out g hg).1))⟩, by simp [intOf]; omega⟩
      · have hnc : ¬ (0 < k ∧ one = true) := fun h => hone ⟨h.2, h.1⟩
        have HSU : Hid ((colF b one (k + 1) s).1 = (colF b one k s).1 ++ [(rdN b 4 (colF b one k s).2).1] ∧ (colF b one (k + 1) s).2 = (rdN b 4 (colF b one k s).2).2) := hide (by rw [colF, if_neg hnc]; exact ⟨rfl, rfl⟩)
        have HTK := hide (fun (W : World) (hR : RdrB W rb A n c (colF b one k s).2) (hT : Tw w W rb none) => tkN 4 4 rfl hR (H.out.twn hT HNE.out) HNE.out (HPOS.out k) (by omega))
        have HSV : Hid ((colF b one (k + 1) s).1.map (conV sign) = (colF b one k s).1.map (conV sign) ++ [conV sign (rdN b 4 (colF b one k s).2).1]) := hide (by rw [HSU.out.1, List.map_append]; rfl)
        have HS4 : Hid (sgnR (tkL b 4 (colF b one k s).2) = sgn4 (rdN b 4 (colF b one k s).2).1) := hide sgnR4
        have HN4 : Hid (numR (tkL b 4 (colF b one k s).2) = (rdN b 4 (colF b one k s).2).1) := hide (by rw [numR_small (by rw [tkL_len]; omega), tkL_num])
        have hcut21 : (one = false) ∨ (one = true ∧ k = 0) := by
          cases hh : one with
          | false => exact .inl rfl
          | true => right; exact ⟨rfl, Nat.eq_zero_of_not_pos fun h0 => hone ⟨hh, h0⟩⟩
        clear hone hnc
        rcases hcut21 with h1 | ⟨h1, hk0⟩
        · subst h1
          cases sign with
          | true =>
            go_wp2_with fail
            with_reducible refine (HTK.out _ HR.out HT.out).mono ?_
            rintro e w4 ⟨⟨T4, tc4, rfl, a4⟩, r4, t4⟩
            have R4 := hide r4
            have T4_ := hide (HT.out.trans t4)
            have O4 := hide (HO.out.tw t4 (fun e => (HNR.out rb e).2 rfl) (fun g _ e => by cases e))
            have HS := hide (signed_any a4 (by omega))
            have hsz4 := t4.size
            clear r4 t4 a4
            go_wp2_with fail
            with_reducible refine HS.out.mono ?_
            rintro e w' ⟨rfl, rfl⟩
            have HV : Hid (sgnR (tkL b 4 (colF b false k s).2) = conV true (rdN b 4 (colF b false k s).2).1) := hide (by rw [HS4.out]; rfl)
            rw [HV.out]
            generalize conV true (rdN b 4 (colF b false k s).2).1 = xv at *
            have S3 : Hid (w.heap.size ≤ (w4.alloc (.cells #[.int .i64 xv] 3)).heap.size) := hide (by rw [World.size_alloc]; omega)
            go_wp2_with (at_builtin; refine wpList_append_at _ rfl (.tmp 38) (.tmp 41) 34 rfl w.heap.size 3 i0_ _ 8 Try.underlying34 hi0 hz0 hz1 hz2 rfl (by omega) len_e64 one_e64 _ _ (by rfl) (O4.out.ext (Ext.alloc _ _)) (some ⟨w4.heap.size, 0, none⟩) 1 1 [xv] (by rfl) (At.new1 w4 xv _ rfl _) S1.out S2.out S3.out ?_; intro v7 w7 o7 g7 _ _; have O7 := hide o7; have G7 := hide g7; clear o7 g7)
            exact ⟨⟨k + 1, by omega, by go_num, hide (by rw [HSV.out]; exact O7.out), hide (by rw [HSU.out.2]; exact (R4.out.ext (Ext.alloc _ _)).grown G7.out (fun e => (HNR.out rb e.symm).2 rfl)), hide ((T4_.out.trans (Tw.of_ext (Ext.alloc _ _) _ _)).row G7.out (fun g hg => .inl (HNR.out g hg).1))⟩, by simp [intOf]; omega⟩
          | false =>
            go_wp2_with fail
            with_reducible refine (HTK.out _ HR.out HT.out).mono ?_
            rintro e w4 ⟨⟨T4, tc4, rfl, a4⟩, r4, t4⟩
            have R4 := hide r4
            have T4_ := hide (HT.out.trans t4)
            have O4 := hide (HO.out.tw t4 (fun e => (HNR.out rb e).2 rfl) (fun g _ e => by cases e))
            have HS := hide (number_any a4 (by omega))
            have hsz4 := t4.size
            clear r4 t4 a4
            go_wp2_with fail
            with_reducible refine HS.out.mono ?_
            rintro e w' ⟨rfl, rfl⟩
            have HV : Hid ((numR (tkL b 4 (colF b false k s).2) : Int) = conV false (rdN b 4 (colF b false k s).2).1) := hide (by rw [HN4.out]; rfl)
            rw [HV.out]
            generalize conV false (rdN b 4 (colF b false k s).2).1 = xv at *
            have S3 : Hid (w.heap.size ≤ (w4.alloc (.cells #[.int .i64 xv] 3)).heap.size) := hide (by rw [World.size_alloc]; omega)
            go_wp2_with (at_builtin; refine wpList_append_at _ rfl (.tmp 43) (.tmp 46) 34 rfl w.heap.size 3 i0_ _ 8 Try.underlying34 hi0 hz0 hz1 hz2 rfl (by omega) len_e64 one_e64 _ _ (by rfl) (O4.out.ext (Ext.alloc _ _)) (some ⟨w4.heap.size, 0, none⟩) 1 1 [xv] (by rfl) (At.new1 w4 xv _ rfl _) S1.out S2.out S3.out ?_; intro v7 w7 o7 g7 _ _; have O7 := hide o7; have G7 := hide g7; clear o7 g7)
            exact ⟨⟨k + 1, by omega, by go_num, hide (by rw [HSV.out]; exact O7.out), hide (by rw [HSU.out.2]; exact (R4.out.ext (Ext.alloc _ _)).grown G7.out (fun e => (HNR.out rb e.symm).2 rfl)), hide ((T4_.out.trans (Tw.of_ext (Ext.alloc _ _) _ _)).row G7.out (fun g hg => .inl (HNR.out g hg).1))⟩, by simp [intOf]; omega⟩
        · subst h1
          have d0 : decide ((0 : Int) < (k : Int)) = false := by simp; omega
          have d1 : decide (0 < k) = false := by simp; omega
          clear hk0
          cases sign with
          | true =>
            go_wp2_with fail
            with_reducible refine (HTK.out _ HR.out HT.out).mono ?_
            rintro e w4 ⟨⟨T4, tc4, rfl, a4⟩, r4, t4⟩
            have R4 := hide r4
            have T4_ := hide (HT.out.trans t4)
            have O4 := hide (HO.out.tw t4 (fun e => (HNR.out rb e).2 rfl) (fun g _ e => by cases e))
            have HS := hide (signed_any a4 (by omega))
            have hsz4 := t4.size
            clear r4 t4 a4
            go_wp2_with fail
            with_reducible refine HS.out.mono ?_
            rintro e w' ⟨rfl, rfl⟩
            have HV : Hid (sgnR (tkL b 4 (colF b true k s).2) = conV true (rdN b 4 (colF b true k s).2).1) := hide (by rw [HS4.out]; rfl)
            rw [HV.out]
            generalize conV true (rdN b 4 (colF b true k s).2).1 = xv at *
            have S3 : Hid (w.heap.size ≤ (w4.alloc (.cells #[.int .i64 xv] 3)).heap.size) := hide (by rw [World.size_alloc]; omega)
            go_wp2_with (at_builtin; refine wpList_append_at _ rfl (.tmp 38) (.tmp 41) 34 rfl w.heap.size 3 i0_ _ 8 Try.underlying34 hi0 hz0 hz1 hz2 rfl (by omega) len_e64 one_e64 _ _ (by rfl) (O4.out.ext (Ext.alloc _ _)) (some ⟨w4.heap.size, 0, none⟩) 1 1 [xv] (by rfl) (At.new1 w4 xv _ rfl _) S1.out S2.out S3.out ?_; intro v7 w7 o7 g7 _ _; have O7 := hide o7; have G7 := hide g7; clear o7 g7)
            exact ⟨⟨k + 1, by omega, by go_num, hide (by rw [HSV.out]; exact O7.out), hide (by rw [HSU.out.2]; exact (R4.out.ext (Ext.alloc _ _)).grown G7.out (fun e => (HNR.out rb e.symm).2 rfl)), hide ((T4_.out.trans (Tw.of_ext (Ext.alloc _ _) _ _)).row G7.out (fun g hg => .inl (HNR.out g hg).1))⟩, by simp [intOf]; omega⟩
          | false =>
            go_wp2_with fail
            with_reducible refine (HTK.out _ HR.out HT.out).mono ?_
            rintro e w4 ⟨⟨T4, tc4, rfl, a4⟩, r4, t4⟩
            have R4 := hide r4
            have T4_ := hide (HT.out.trans t4)
            have O4 := hide (HO.out.tw t4 (fun e => (HNR.out rb e).2 rfl) (fun g _ e => by cases e))
            have HS := hide (number_any a4 (by omega))
            have hsz4 := t4.size
            clear r4 t4 a4
            go_wp2_with fail
            with_reducible refine HS.out.mono ?_
            rintro e w' ⟨rfl, rfl⟩
            have HV : Hid ((numR (tkL b 4 (colF b true k s).2) : Int) = conV false (rdN b 4 (colF b true k s).2).1) := hide (by rw [HN4.out]; rfl)
            rw [HV.out]
            generalize conV false (rdN b 4 (colF b true k s).2).1 = xv at *
            have S3 : Hid (w.heap.size ≤ (w4.alloc (.cells #[.int .i64 xv] 3)).heap.size) := hide (by rw [World.size_alloc]; omega)
            go_wp2_with (at_builtin; refine wpList_append_at _ rfl (.tmp 43) (.tmp 46) 34 rfl w.heap.size 3 i0_ _ 8 Try.underlying34 hi0 hz0 hz1 hz2 rfl (by omega) len_e64 one_e64 _ _ (by rfl) (O4.out.ext (Ext.alloc _ _)) (some ⟨w4.heap.size, 0, none⟩) 1 1 [xv] (by rfl) (At.new1 w4 xv _ rfl _) S1.out S2.out S3.out ?_; intro v7 w7 o7 g7 _ _; have O7 := hide o7; have G7 := hide g7; clear o7 g7)
            exact ⟨⟨k + 1, by omega, by go_num, hide (by rw [HSV.out]; exact O7.out), hide (by rw [HSU.out.2]; exact (R4.out.ext (Ext.alloc _ _)).grown G7.out (fun e => (HNR.out rb e.symm).2 rfl)), hide ((T4_.out.trans (Tw.of_ext (Ext.alloc _ _) _ _)).row G7.out (fun g hg => .inl (HNR.out g hg).1))⟩, by simp [intOf]; omega⟩
    | false =>
      have hg : ¬ (k < m ∧ (colF b one k s).2.bad = false) := by have := HG.out; exact of_decide_eq_false this.symm
      have HEQ : Hid ((colF b one m s).2 = (colF b one k s).2 ∧ ((colF b one m s).2.bad = false → k = m)) := hide (by
        by_cases h1 : k < m
        · have hbad : (colF b one k s).2.bad = true := by
            cases hh : (colF b one k s).2.bad with
            | true => rfl
            | false => exact absurd ⟨h1, hh⟩ hg
          have e1 := colF_more hbad m hk
          exact ⟨e1, fun h => by rw [e1, hbad] at h; cases h⟩
        · rw [show k = m by omega]; exact ⟨rfl, fun _ => rfl⟩)
      obtain ⟨vA, vc, hv, hat⟩ := HO.out.at_ len_e64
      have HAT := hide hat
      subst hv
      clear hg HG hat
      go_wp2_with fail
      go_ret
      have HLT := HO.out.lt
      refine ⟨_, _, _, rfl, ?_, HT.out, (fun hb => ?_), fun a ha => by subst ha; exact (HLT a.block rfl).1⟩
      · rw [HEQ.out.1]; exact HR.out
      · have := HEQ.out.2 hb
        subst this
        exact HAT.out
end Go.Proofs.Ytccmbokodifdoaa
