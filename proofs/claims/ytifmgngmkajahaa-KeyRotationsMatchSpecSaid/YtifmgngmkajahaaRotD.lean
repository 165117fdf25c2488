/- Walks of KeyId and KeyOf of the program. Conditions: none. -/
import Derived.Test.YtifmgngmkajahaaRotC
namespace Go.Proofs.Ytifmgngmkajahaa
open Go.RowKit Kc

/-- A slice of bytes and a fault. -/
def GivesB (w : World) (l : List UInt8) (f : Int) (e : Ending) (w' : World) : Prop := ∃ A k c, e = .returned (.tuple #[.slice A k c, .int .i64 f]) ∧ At w' 1 e8 A k c l ∧ Ext w w'
theorem givesB_nil {w w' : World} (f : Int) (h : Ext w w') : GivesB w [] f (.returned (.tuple #[.slice none 0 0, .int .i64 f])) w' := ⟨none, 0, 0, rfl, At.nil _ _ _, h⟩
def idF (B E L : Int) (n : Nat) (p : Int) : Int := if rotF B E L n ≠ 0 then rotF B E L n else if p < 0 ∨ 1000000000 < p then 1 else 0
def idV (B E L : Int) (l : List UInt8) (p : Int) : List UInt8 := if idF B E L l.length p ≠ 0 then [] else idL l p.toNat
def ofF (B E L : Int) (n m : Nat) (p : Int) : Int := if rotF B E L n ≠ 0 then rotF B E L n else if 100 < m then 2 else if p < 0 ∨ 1000000000 < p then 1 else 0
def ofV (B E L : Int) (l s : List UInt8) (p : Int) : List UInt8 := if ofF B E L l.length s.length p ≠ 0 then [] else digest (s ++ idL l p.toNat)
theorem length_idL (l : List UInt8) (p : Nat) : (idL l p).length = 16 := length_digest _

set_option maxRecDepth 100000 in
set_option maxHeartbeats 4000000 in
theorem keyKeyId_any (B E L : Int) {A : Option Addr} {n c : Nat} {l : List UInt8} {w : World} (h : At w 1 e8 A n c l) (p : Int) :
    Calls Try.prog 55 #[rotV B E L A n c, .int .i64 p] w (GivesB w (idV B E L l p) (idF B E L n p)) := by
  have hl := h.len
  have HC := hide (fun W : World => keyCheckRotation_any B E L A n c W)
  have H := hide h
  clear h
  unfold idV
  rw [hl]
  by_cases hr : rotF B E L n = 0
  rotate_left
  · have hf : idF B E L n p = rotF B E L n := by unfold idF; rw [if_pos hr]
    rw [hf, if_pos hr]
    have hr' : (rotF B E L n != 0) = true := by rw [bne_iff_ne]; exact hr
    generalize rotF B E L n = r at *
    clear hr hf hl
    go_enter Try.func55, Try.ntmps55
    go_wp2_with (first | ((go_at_call 53; with_reducible refine (HC.out _).mono ?_); rintro e w1 ⟨rfl, e1⟩) | ((go_at_call 87; with_reducible refine (out_no ?_ _).mono ?_); (focus omega); rintro e w' ⟨rfl, rfl⟩) | ((go_at_call 87; with_reducible refine (out_yes ?_ _).mono ?_); (focus omega); rintro e w' ⟨rfl, rfl⟩))
    go_ret2
    exact givesB_nil _ (Ext.trans (Ext.alloc _ _) e1)
  obtain ⟨hB, hE, hL, hn⟩ := rotF_zero hr
  have hc := HC.out
  rw [hr] at hc
  have HC2 := hide hc
  clear hc HC
  by_cases hp : p < 0 ∨ 1000000000 < p
  · have hf : idF B E L n p = 1 := by unfold idF; rw [if_neg (by omega), if_pos hp]
    rw [hf, if_pos (by decide)]
    clear hf hr hl
    go_enter Try.func55, Try.ntmps55
    go_wp2_with (first | ((go_at_call 53; with_reducible refine (HC2.out _).mono ?_); rintro e w1 ⟨rfl, e1⟩; have z1 := e1.size) | ((go_at_call 87; with_reducible refine (out_no ?_ _).mono ?_); (focus omega); rintro e w' ⟨rfl, rfl⟩) | ((go_at_call 87; with_reducible refine (out_yes ?_ _).mono ?_); (focus omega); rintro e w' ⟨rfl, rfl⟩))
    go_ret2
    exact givesB_nil _ (Ext.trans (Ext.alloc _ _) e1)
  · have hf : idF B E L n p = 0 := by unfold idF; rw [if_neg (by omega), if_neg hp]
    rw [hf, if_neg (by decide)]
    obtain ⟨k, rfl⟩ : ∃ k : Nat, p = (k : Int) := ⟨p.toNat, by omega⟩
    have hk : k ≤ 1000000000 := by omega
    have hk0 : (0 : Int) ≤ (k : Int) := by omega
    have hk1 : (k : Int) ≤ 1000000000 := by omega
    rw [Int.toNat_natCast]
    clear hf hr hl hp
    go_enter Try.func55, Try.ntmps55
    go_wp2_with (first | ((go_at_call 53; with_reducible refine (HC2.out _).mono ?_); rintro e w1 ⟨rfl, e1⟩; have z1 := e1.size; have c0 := e1.cell ((Blk.new w 31 #[.int .i64 B, .int .i64 E, .int .i64 L, .slice A n c]).cell 0); have c1 := e1.cell ((Blk.new w 31 #[.int .i64 B, .int .i64 E, .int .i64 L, .slice A n c]).cell 1); have c2 := e1.cell ((Blk.new w 31 #[.int .i64 B, .int .i64 E, .int .i64 L, .slice A n c]).cell 2); have c3 := e1.cell ((Blk.new w 31 #[.int .i64 B, .int .i64 E, .int .i64 L, .slice A n c]).cell 3)) | ((go_at_call 113; with_reducible refine (keyId_any B E L (H.out.ext (Ext.trans (Ext.alloc _ _) e1)) hn k hk).mono ?_); rintro e w2 ⟨g2, rfl, a2, e2⟩) | ((go_at_call 87; with_reducible refine (out_no ?_ _).mono ?_); (focus omega); rintro e w' ⟨rfl, rfl⟩) | ((go_at_call 87; with_reducible refine (out_yes ?_ _).mono ?_); (focus omega); rintro e w' ⟨rfl, rfl⟩))
    go_ret2
    exact ⟨_, _, _, rfl, a2, Ext.trans (Ext.trans (Ext.alloc _ _) e1) e2⟩

set_option maxRecDepth 100000 in
set_option maxHeartbeats 4000000 in
theorem keyKeyOf_any (B E L : Int) {A A2 : Option Addr} {n c n2 d2 : Nat} {l s : List UInt8} {w : World} (h : At w 1 e8 A n c l) (h2 : At w 1 e8 A2 n2 d2 s) (p : Int) :
    Calls Try.prog 57 #[rotV B E L A n c, .slice A2 n2 d2, .int .i64 p] w (GivesB w (ofV B E L l s p) (ofF B E L n n2 p)) := by
  obtain ⟨i0, hi0, hz0, hz1, hz2⟩ := info_parts Try.info5
  have hl := h.len
  have hl2 := h2.len
  have HC := hide (fun W : World => keyCheckRotation_any B E L A n c W)
  have H := hide h
  have H2 := hide h2
  clear h h2
  unfold ofV
  rw [hl, hl2]
  by_cases hr : rotF B E L n = 0
  rotate_left
  · have hf : ofF B E L n n2 p = rotF B E L n := by unfold ofF; rw [if_pos hr]
    rw [hf, if_pos hr]
    have hr' : (rotF B E L n != 0) = true := by rw [bne_iff_ne]; exact hr
    generalize rotF B E L n = r at *
    clear hr hf hl hl2
    go_enter Try.func57, Try.ntmps57
    go_wp2_with (first | ((go_at_call 53; with_reducible refine (HC.out _).mono ?_); rintro e w1 ⟨rfl, e1⟩) | ((go_at_call 87; with_reducible refine (out_no ?_ _).mono ?_); (focus omega); rintro e w' ⟨rfl, rfl⟩) | ((go_at_call 87; with_reducible refine (out_yes ?_ _).mono ?_); (focus omega); rintro e w' ⟨rfl, rfl⟩))
    go_ret2
    exact givesB_nil _ (Ext.trans (Ext.alloc _ _) e1)
  obtain ⟨hB, hE, hL, hn⟩ := rotF_zero hr
  have hc := HC.out
  rw [hr] at hc
  have HC2 := hide hc
  clear hc HC
  by_cases hs : 100 < n2
  · have hf : ofF B E L n n2 p = 2 := by unfold ofF; rw [if_neg (by omega), if_pos hs]
    rw [hf, if_pos (by decide)]
    clear hf hr hl hl2
    go_enter Try.func57, Try.ntmps57
    go_wp2_with (first | ((go_at_call 53; with_reducible refine (HC2.out _).mono ?_); rintro e w1 ⟨rfl, e1⟩; have z1 := e1.size) | ((go_at_call 87; with_reducible refine (out_no ?_ _).mono ?_); (focus omega); rintro e w' ⟨rfl, rfl⟩) | ((go_at_call 87; with_reducible refine (out_yes ?_ _).mono ?_); (focus omega); rintro e w' ⟨rfl, rfl⟩))
    go_ret2
    exact givesB_nil _ (Ext.trans (Ext.alloc _ _) e1)
  have hs' : n2 ≤ 100 := by omega
  by_cases hp : p < 0 ∨ 1000000000 < p
  · have hf : ofF B E L n n2 p = 1 := by unfold ofF; rw [if_neg (by omega), if_neg hs, if_pos hp]
    rw [hf, if_pos (by decide)]
    clear hf hr hl hl2 hs
    go_enter Try.func57, Try.ntmps57
    go_wp2_with (first | ((go_at_call 53; with_reducible refine (HC2.out _).mono ?_); rintro e w1 ⟨rfl, e1⟩; have z1 := e1.size) | ((go_at_call 87; with_reducible refine (out_no ?_ _).mono ?_); (focus omega); rintro e w' ⟨rfl, rfl⟩) | ((go_at_call 87; with_reducible refine (out_yes ?_ _).mono ?_); (focus omega); rintro e w' ⟨rfl, rfl⟩))
    go_ret2
    exact givesB_nil _ (Ext.trans (Ext.alloc _ _) e1)
  · have hf : ofF B E L n n2 p = 0 := by unfold ofF; rw [if_neg (by omega), if_neg hs, if_neg hp]
    rw [hf, if_neg (by decide)]
    obtain ⟨k, rfl⟩ : ∃ k : Nat, p = (k : Int) := ⟨p.toNat, by omega⟩
    have hk : k ≤ 1000000000 := by omega
    have hk0 : (0 : Int) ≤ (k : Int) := by omega
    have hk1 : (k : Int) ≤ 1000000000 := by omega
    rw [Int.toNat_natCast]
    have HL2 := hide hl2
    clear hf hr hl hl2 hp hs
    go_enter Try.func57, Try.ntmps57
    go_wp2_with (first | ((go_at_call 53; with_reducible refine (HC2.out _).mono ?_); rintro e w1 ⟨rfl, e1⟩; have z1 := e1.size; have c0 := e1.cell ((Blk.new w 31 #[.int .i64 B, .int .i64 E, .int .i64 L, .slice A n c]).cell 0); have c1 := e1.cell ((Blk.new w 31 #[.int .i64 B, .int .i64 E, .int .i64 L, .slice A n c]).cell 1); have c2 := e1.cell ((Blk.new w 31 #[.int .i64 B, .int .i64 E, .int .i64 L, .slice A n c]).cell 2); have c3 := e1.cell ((Blk.new w 31 #[.int .i64 B, .int .i64 E, .int .i64 L, .slice A n c]).cell 3)) | ((go_at_call 87; with_reducible refine (out_no ?_ _).mono ?_); (focus omega); rintro e w' ⟨rfl, rfl⟩) | ((go_at_call 87; with_reducible refine (out_yes ?_ _).mono ?_); (focus omega); rintro e w' ⟨rfl, rfl⟩))
    have E0 : Ext w w1 := Ext.trans (Ext.alloc _ _) e1
    have s1 : ([] : List UInt8).length + n2 ≤ maxLen := by simp; unfold maxLen; omega
    have s2 : (([] : List UInt8).length + n2) * 1 ≤ 140737488355328 := by simp; omega
    have t1 : ([] ++ s).length + 16 ≤ maxLen := by rw [List.nil_append, HL2.out]; unfold maxLen; omega
    have t2 : (([] ++ s).length + 16) * 1 ≤ 140737488355328 := by rw [List.nil_append, HL2.out]; omega
    have u1 : ([] ++ s ++ idL l k).length = n2 + 16 := by simp [HL2.out, length_idL]
    have S1 := hide s1; have S2 := hide s2; have T1 := hide t1; have T2 := hide t2; have U1 := hide u1
    clear s1 s2 t1 t2 u1 e1
    go_region_held3 (fun w' => w'.cell? ⟨w.heap.size, 0, none⟩ = some (.int .i64 B) ∧ w'.cell? ⟨w.heap.size, 1, none⟩ = some (.int .i64 E) ∧ w'.cell? ⟨w.heap.size, 2, none⟩ = some (.int .i64 L) ∧ w'.cell? ⟨w.heap.size, 3, none⟩ = some (.slice A n c)) (first | go_keep | exact ⟨E7.cell c0, E7.cell c1, E7.cell c2, E7.cell c3⟩ | exact ⟨E6.cell c0, E6.cell c1, E6.cell c2, E6.cell c3⟩ | exact ⟨E3.cell c0, E3.cell c1, E3.cell c2, E3.cell c3⟩ | exact ⟨E5.cell c0, E5.cell c1, E5.cell c2, E5.cell c3⟩) (first
      | ((refine step_append_at rfl (.const (.slice none 0 0)) (.tmp 21) 22 rfl w1.heap.size 5 i0 _ 1 Try.underlying22 hi0 hz0 hz1 hz2 rfl (by omega) len_e8 one_e8 (.slice none 0 0) [] rfl (Own.nil _ _ _ _ _) A2 n2 d2 s (by simp [Act.eval]) (H2.out.ext (Ext.trans E0 (by first | exact Ext.drew _ | exact E5))) S1.out S2.out (by first | exact Nat.le_refl _ | exact E5.size) ?_); intro v3 w3 o3 g3 _ _; have O3 := hide o3; have x3 := grown_ext g3; have E3 : Ext w1 w3 := (by first | exact Ext.trans (Ext.drew _) x3 | exact Ext.trans E5 x3); clear o3 g3)
      | ((go_at_call 113; with_reducible refine (keyId_any B E L (H.out.ext (Ext.trans E0 (by first | exact Ext.drew _ | exact E3))) hn k hk).mono ?_); rintro e w5 ⟨g5, rfl, a5, e5⟩; have P5 := hide a5; have E5 : Ext w1 w5 := (by first | exact Ext.trans (Ext.drew _) e5 | exact Ext.trans E3 e5); clear a5)
      | ((refine step_append_at rfl (.tmp 22) (.tmp 25) 22 rfl w1.heap.size 5 i0 _ 1 Try.underlying22 hi0 hz0 hz1 hz2 rfl (by omega) len_e8 one_e8 v3 ([] ++ s) (by simp [Act.eval]) (by first | exact O3.out | exact O3.out.ext e5) (some ⟨g5, 0, none⟩) 16 16 (idL l k) (by simp [Act.eval]) (by first | exact P5.out | exact P5.out.ext x3) T1.out T2.out (by first | exact E3.size | exact E5.size) ?_); intro v6 w6 o6 g6 _ _; have O6 := hide o6; have E6 : Ext w1 w6 := (by first | exact Own.below O3.out E3 g6 (Nat.le_refl _) | exact Own.below (O3.out.ext e5) E5 g6 (Nat.le_refl _)); clear o6 g6; obtain ⟨A6, d6, hv6, a6⟩ := O6.out.at_ len_e8; rw [U1.out] at hv6 a6; subst hv6; have P6 := hide a6; clear a6)
      | ((go_at_call 21; with_reducible refine (digest_any P6.out (by omega)).mono ?_); rintro e w7 ⟨g7, rfl, o7, e7⟩; have O7 := hide (o7.atS len_e8); have E7 := Ext.trans E6 e7; clear o7))
    all_goals
      go_wp2
      go_ret2
      refine ⟨_, _, _, rfl, ?_, Ext.trans E0 E7⟩
      have q := O7.out
      rw [List.nil_append] at q
      exact q
end Go.Proofs.Ytifmgngmkajahaa
