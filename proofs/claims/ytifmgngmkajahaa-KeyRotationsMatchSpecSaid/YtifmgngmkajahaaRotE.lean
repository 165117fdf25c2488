/- Walks of KeyId and KeyOf of the document. Conditions: none. -/
import Derived.Test.YtifmgngmkajahaaRotD
namespace Go.Proofs.Ytifmgngmkajahaa
open Go.RowKit Kc

set_option maxRecDepth 100000 in
set_option maxHeartbeats 4000000 in
theorem refKeyId_any (B E L : Int) {A : Option Addr} {n c : Nat} {l : List UInt8} {w : World} (h : At w 1 e8 A n c l) (p : Int) :
    Calls Try.prog 56 #[rotV B E L A n c, .int .i64 p] w (GivesB w (idV B E L l p) (idF B E L n p)) := by
  have hl := h.len
  have HC := hide (fun W : World => refCheckRotation_any B E L A n c W)
  have H := hide h
  clear h
  unfold idV
  rw [hl]
  by_cases hr : rotF B E L n = 0
  rotate_left
  · have hf : idF B E L n p = rotF B E L n := by unfold idF; rw [if_pos hr]
    rw [hf, if_pos hr]
    have hr' : (rotF B E L n != 0) = true := by rw [bne_iff_ne]; exact hr
    generalize rotF B E L n = r at *
    clear hr hf hl
    go_enter Try.func56, Try.ntmps56
    go_wp2_with (first | ((go_at_call 54; with_reducible refine (HC.out _).mono ?_); rintro e w1 ⟨rfl, e1⟩) | ((go_at_call 92; with_reducible refine (within_yes ?_ _).mono ?_); (focus omega); rintro e w' ⟨rfl, rfl⟩) | ((go_at_call 92; with_reducible refine (within_no ?_ _).mono ?_); (focus omega); rintro e w' ⟨rfl, rfl⟩))
    go_ret2
    exact givesB_nil _ (Ext.trans (Ext.alloc _ _) e1)
  obtain ⟨hB, hE, hL, hn⟩ := rotF_zero hr
  have hc := HC.out
  rw [hr] at hc
  have HC2 := hide hc
  clear hc HC
  by_cases hp : p < 0 ∨ 1000000000 < p
  · have hf : idF B E L n p = 1 := by unfold idF; rw [if_neg (by omega), if_pos hp]
    rw [hf, if_pos (by decide)]
    clear hf hr hl
    go_enter Try.func56, Try.ntmps56
    go_wp2_with (first | ((go_at_call 54; with_reducible refine (HC2.out _).mono ?_); rintro e w1 ⟨rfl, e1⟩; have z1 := e1.size) | ((go_at_call 92; with_reducible refine (within_yes ?_ _).mono ?_); (focus omega); rintro e w' ⟨rfl, rfl⟩) | ((go_at_call 92; with_reducible refine (within_no ?_ _).mono ?_); (focus omega); rintro e w' ⟨rfl, rfl⟩))
    go_ret2
    exact givesB_nil _ (Ext.trans (Ext.alloc _ _) e1)
  · have hf : idF B E L n p = 0 := by unfold idF; rw [if_neg (by omega), if_neg hp]
    rw [hf, if_neg (by decide)]
    obtain ⟨k, rfl⟩ : ∃ k : Nat, p = (k : Int) := ⟨p.toNat, by omega⟩
    have hk : k ≤ 1000000000 := by omega
    have hk0 : (0 : Int) ≤ (k : Int) := by omega
    have hk1 : (k : Int) ≤ 1000000000 := by omega
    rw [Int.toNat_natCast]
    have u1 : (l ++ beL 8 k).length = n + 8 := by simp [hl, length_beL]
    have U1 := hide u1
    clear hf hr hl hp u1
    go_enter Try.func56, Try.ntmps56
    go_wp2_with (first | ((go_at_call 54; with_reducible refine (HC2.out _).mono ?_); rintro e w1 ⟨rfl, e1⟩; have z1 := e1.size; have c3 := e1.cell ((Blk.new w 31 #[.int .i64 B, .int .i64 E, .int .i64 L, .slice A n c]).cell 3)) | ((go_at_call 92; with_reducible refine (within_yes ?_ _).mono ?_); (focus omega); rintro e w' ⟨rfl, rfl⟩) | ((go_at_call 92; with_reducible refine (within_no ?_ _).mono ?_); (focus omega); rintro e w' ⟨rfl, rfl⟩))
    have E0 : Ext w w1 := Ext.trans (Ext.alloc _ _) e1
    clear e1
    have wu : IntKind.u64.wrap (k : Int) = (k : Int) := by rw [IntKind.wrap_u64]; omega
    go_region_held3 (fun w' => w'.cell? ⟨w.heap.size, 3, none⟩ = some (.slice A n c)) (first | go_keep | exact E7.cell c3 | exact E4.cell c3 | exact E3.cell c3 | exact E2.cell c3) (first
      | ((go_at_call 81; with_reducible refine (bytesOf_8 k _ (by omega)).mono ?_); rintro e w2 ⟨g2, rfl, o2, e2⟩; have P2 := hide (o2.atS len_e8); have E2 : Ext w1 w2 := Ext.trans (Ext.drew _) e2; have z2 := e2.size; clear o2)
      | ((go_at_call 40; refine (concat2_any (Aa := A) (na := n) (ca := c) (Ab := some ⟨g2, 0, none⟩) (nb := 8) (cb := 8) (la := l) (lb := beL 8 k) ((Blk.new w2 22 #[.slice A n c, .slice (some ⟨g2, 0, none⟩) 8 8]).cell 0) ((Blk.new w2 22 #[.slice A n c, .slice (some ⟨g2, 0, none⟩) 8 8]).cell 1) (H.out.ext (Ext.trans E0 (ext_alloc E2 _))) (P2.out.ext (Ext.alloc _ _)) (by omega)).mono ?_); rintro e w3 ⟨v3, rfl, o3, e3⟩; have E3 : Ext w1 w3 := Ext.trans (ext_alloc E2 _) e3; obtain ⟨A3, d3, hv3, a3⟩ := o3.at_ len_e8; rw [U1.out] at hv3 a3; subst hv3; have P3 := hide a3; clear a3 o3)
      | ((go_at_call 22; with_reducible refine (refDigest_any P3.out (by omega)).mono ?_); rintro e w7 ⟨g7, d7, rfl, o7, e7⟩; have O7 := hide (o7.atS len_e8); have E7 := Ext.trans E3 e7; clear o7))
    all_goals
      go_wp2
      go_ret2
      exact ⟨_, _, _, rfl, O7.out, Ext.trans E0 E7⟩

set_option maxRecDepth 100000 in
set_option maxHeartbeats 4000000 in
theorem refKeyOf_any (B E L : Int) {A A2 : Option Addr} {n c n2 d2 : Nat} {l s : List UInt8} {w : World} (h : At w 1 e8 A n c l) (h2 : At w 1 e8 A2 n2 d2 s) (p : Int) :
    Calls Try.prog 58 #[rotV B E L A n c, .slice A2 n2 d2, .int .i64 p] w (GivesB w (ofV B E L l s p) (ofF B E L n n2 p)) := by
  have hl := h.len
  have hl2 := h2.len
  have HC := hide (fun W : World => refCheckRotation_any B E L A n c W)
  have H := hide h
  have H2 := hide h2
  clear h h2
  unfold ofV
  rw [hl, hl2]
  by_cases hr : rotF B E L n = 0
  rotate_left
  · have hf : ofF B E L n n2 p = rotF B E L n := by unfold ofF; rw [if_pos hr]
    rw [hf, if_pos hr]
    have hr' : (rotF B E L n != 0) = true := by rw [bne_iff_ne]; exact hr
    generalize rotF B E L n = r at *
    clear hr hf hl hl2
    go_enter Try.func58, Try.ntmps58
    go_wp2_with (first | ((go_at_call 54; with_reducible refine (HC.out _).mono ?_); rintro e w1 ⟨rfl, e1⟩) | ((go_at_call 92; with_reducible refine (within_yes ?_ _).mono ?_); (focus omega); rintro e w' ⟨rfl, rfl⟩) | ((go_at_call 92; with_reducible refine (within_no ?_ _).mono ?_); (focus omega); rintro e w' ⟨rfl, rfl⟩))
    go_ret2
    exact givesB_nil _ (Ext.trans (Ext.alloc _ _) e1)
  obtain ⟨hB, hE, hL, hn⟩ := rotF_zero hr
  have hc := HC.out
  rw [hr] at hc
  have HC2 := hide hc
  clear hc HC
  by_cases hs : 100 < n2
  · have hf : ofF B E L n n2 p = 2 := by unfold ofF; rw [if_neg (by omega), if_pos hs]
    rw [hf, if_pos (by decide)]
    clear hf hr hl hl2
    go_enter Try.func58, Try.ntmps58
    go_wp2_with (first | ((go_at_call 54; with_reducible refine (HC2.out _).mono ?_); rintro e w1 ⟨rfl, e1⟩; have z1 := e1.size) | ((go_at_call 92; with_reducible refine (within_yes ?_ _).mono ?_); (focus omega); rintro e w' ⟨rfl, rfl⟩) | ((go_at_call 92; with_reducible refine (within_no ?_ _).mono ?_); (focus omega); rintro e w' ⟨rfl, rfl⟩))
    go_ret2
    exact givesB_nil _ (Ext.trans (Ext.alloc _ _) e1)
  have hs' : n2 ≤ 100 := by omega
  have HK := hide (fun (W : World) (hW : Ext w W) => refKeyId_any B E L (H.out.ext hW) p)
  by_cases hp : p < 0 ∨ 1000000000 < p
  · have hf : ofF B E L n n2 p = 1 := by unfold ofF; rw [if_neg (by omega), if_neg hs, if_pos hp]
    have hf2 : idF B E L n p = 1 := by unfold idF; rw [if_neg (by omega), if_pos hp]
    have hf3 : idV B E L l p = [] := by unfold idV; rw [hl, hf2]; rfl
    rw [hf, if_pos (by decide)]
    have hk := HK.out
    rw [hf2, hf3] at hk
    have HK2 := hide hk
    clear hf hr hl hl2 hs hf2 hf3 HK hk
    go_enter Try.func58, Try.ntmps58
    go_wp2_with (first | ((go_at_call 54; with_reducible refine (HC2.out _).mono ?_); rintro e w1 ⟨rfl, e1⟩; have z1 := e1.size; have c0 := e1.cell ((Blk.new w 31 #[.int .i64 B, .int .i64 E, .int .i64 L, .slice A n c]).cell 0); have c1 := e1.cell ((Blk.new w 31 #[.int .i64 B, .int .i64 E, .int .i64 L, .slice A n c]).cell 1); have c2 := e1.cell ((Blk.new w 31 #[.int .i64 B, .int .i64 E, .int .i64 L, .slice A n c]).cell 2); have c3 := e1.cell ((Blk.new w 31 #[.int .i64 B, .int .i64 E, .int .i64 L, .slice A n c]).cell 3)) | ((go_at_call 56; with_reducible refine (HK2.out _ (Ext.trans (Ext.alloc _ _) e1)).mono ?_); rintro e w2 ⟨A3, k3, d3, rfl, a3, e2⟩))
    go_ret2
    exact givesB_nil _ (Ext.trans (Ext.trans (Ext.alloc _ _) e1) e2)
  · have hf : ofF B E L n n2 p = 0 := by unfold ofF; rw [if_neg (by omega), if_neg hs, if_neg hp]
    have hf2 : idF B E L n p = 0 := by unfold idF; rw [if_neg (by omega), if_neg hp]
    have hf3 : idV B E L l p = idL l p.toNat := by unfold idV; rw [hl, hf2]; rfl
    rw [hf, if_neg (by decide)]
    have hk := HK.out
    rw [hf2, hf3] at hk
    have HK2 := hide hk
    have u1 : (s ++ idL l p.toNat).length = n2 + 16 := by simp [hl2, length_idL]
    have U1 := hide u1
    generalize p.toNat = q at *
    clear hf hr hl hl2 hs hf2 hf3 HK hk u1
    go_enter Try.func58, Try.ntmps58
    go_wp2_with (first
      | ((go_at_call 54; with_reducible refine (HC2.out _).mono ?_); rintro e w1 ⟨rfl, e1⟩; have z1 := e1.size; have c0 := e1.cell ((Blk.new w 31 #[.int .i64 B, .int .i64 E, .int .i64 L, .slice A n c]).cell 0); have c1 := e1.cell ((Blk.new w 31 #[.int .i64 B, .int .i64 E, .int .i64 L, .slice A n c]).cell 1); have c2 := e1.cell ((Blk.new w 31 #[.int .i64 B, .int .i64 E, .int .i64 L, .slice A n c]).cell 2); have c3 := e1.cell ((Blk.new w 31 #[.int .i64 B, .int .i64 E, .int .i64 L, .slice A n c]).cell 3))
      | ((go_at_call 56; with_reducible refine (HK2.out _ (Ext.trans (Ext.alloc _ _) e1)).mono ?_); rintro e w2 ⟨A3, k3, d3, rfl, a3, e2⟩; have h16 := a3.len; rw [length_idL] at h16; subst h16; have P3 := hide a3; clear a3; have z2 := e2.size)
      | ((go_at_call 40; refine (concat2_any (Aa := A2) (na := n2) (ca := d2) (Ab := A3) (nb := 16) (cb := d3) (la := s) (lb := idL l q) ((Blk.new w2 22 #[.slice A2 n2 d2, .slice A3 16 d3]).cell 0) ((Blk.new w2 22 #[.slice A2 n2 d2, .slice A3 16 d3]).cell 1) (H2.out.ext (Ext.trans (Ext.trans (Ext.alloc _ _) e1) (ext_alloc e2 _))) (P3.out.ext (Ext.alloc _ _)) (by omega)).mono ?_); rintro e w4 ⟨v4, rfl, o4, e4⟩; obtain ⟨A4, d4, hv4, a4⟩ := o4.at_ len_e8; rw [U1.out] at hv4 a4; subst hv4; have P4 := hide a4; clear a4 o4)
      | ((go_at_call 22; with_reducible refine (refDigest_any P4.out (by omega)).mono ?_); rintro e w7 ⟨g7, d7, rfl, o7, e7⟩; have O7 := hide (o7.atS len_e8); clear o7))
    go_ret2
    exact ⟨_, _, _, rfl, O7.out, Ext.trans (Ext.trans (Ext.alloc _ _) e1) (Ext.trans (Ext.trans (ext_alloc e2 _) e4) e7)⟩
end Go.Proofs.Ytifmgngmkajahaa
