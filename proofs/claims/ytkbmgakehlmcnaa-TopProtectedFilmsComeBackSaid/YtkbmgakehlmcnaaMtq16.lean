/- Several texts in one: Walks of KeyId and KeyOf of the program. Conditions: none; Plain: what is encrypted and decrypted. Conditions as stated; Chunks of tracks laid one after another, in plain words. Plain but for the words of tracks; Numbers as bytes, the greatest first. Plain; Walk: the head of a box (program). Conditions as stated. -/
import Derived.Test.YtkbmgakehlmcnaaMtq15
import Derived.Test.YtkbmgakehlmcnaaMtq14
import Derived.Test.YtkbmgakehlmcnaaMtq02
import Derived.Test.YtkbmgakehlmcnaaMtq01
import Derived.Test.YtkbmgakehlmcnaaMtq10
import Derived.Laws.BytesArg
import Derived.StillTailTactics
import Derived.Deep.DeepCutAuto
namespace Go.Proofs.Ytkbmgakehlmcnaa
open Go.RowKit Kc
def GivesB (w : World) (l : List UInt8) (f : Int) (e : Ending) (w' : World) : Prop := ∃ A k c, e = .returned (.tuple #[.slice A k c, .int .i64 f]) ∧ At w' 1 e8 A k c l ∧ Ext w w'
theorem givesB_nil {w w' : World} (f : Int) (h : Ext w w') : GivesB w [] f (.returned (.tuple #[.slice none 0 0, .int .i64 f])) w' := ⟨none, 0, 0, rfl, At.nil _ _ _, h⟩
def idF (B E L : Int) (n : Nat) (p : Int) : Int := if rotF B E L n ≠ 0 then rotF B E L n else if p < 0 ∨ 1000000000 < p then 1 else 0
def idV (B E L : Int) (l : List UInt8) (p : Int) : List UInt8 := if idF B E L l.length p ≠ 0 then [] else idL l p.toNat
def ofF (B E L : Int) (n m : Nat) (p : Int) : Int := if rotF B E L n ≠ 0 then rotF B E L n else if 100 < m then 2 else if p < 0 ∨ 1000000000 < p then 1 else 0
def ofV (B E L : Int) (l s : List UInt8) (p : Int) : List UInt8 := if ofF B E L l.length s.length p ≠ 0 then [] else digest (s ++ idL l p.toNat)
theorem length_idL (l : List UInt8) (p : Nat) : (idL l p).length = 16 := length_digest _
set_option maxRecDepth 100000 in
set_option maxHeartbeats 4000000 in
theorem keyKeyId_any (B E L : Int) {A : Option Addr} {n c : Nat} {l : List UInt8} {w : World} (h : At w 1 e8 A n c l) (p : Int) :
    Calls Try.prog 5 #[rotV B E L A n c, .int .i64 p] w (GivesB w (idV B E L l p) (idF B E L n p)) := by
  have hl := h.len
  have HC := hide (fun W : World => keyCheckRotation_any B E L A n c W)
  have H := hide h
  clear h
  unfold idV
  rw [hl]
  by_cases hr : rotF B E L n = 0
  rotate_left
  · have hf : idF B E L n p = rotF B E L n := by unfold idF; rw [if_pos hr]
    rw [hf, if_pos hr]
    have hr' : (rotF B E L n != 0) = true := by rw [bne_iff_ne]; exact hr
    generalize rotF B E L n = r at *
    clear hr hf hl
    go_enter Try.func5, Try.ntmps5
    go_wp2_with (first | ((go_at_call 13; with_reducible refine (HC.out _).mono ?_); rintro e w1 ⟨rfl, e1⟩) | ((go_at_call 14; with_reducible refine (out_no ?_ _).mono ?_); (focus omega); rintro e w' ⟨rfl, rfl⟩) | ((go_at_call 14; with_reducible refine (out_yes ?_ _).mono ?_); (focus omega); rintro e w' ⟨rfl, rfl⟩))
    go_ret2
    exact givesB_nil _ (Ext.trans (Ext.alloc _ _) e1)
  obtain ⟨hB, hE, hL, hn⟩ := rotF_zero hr
  have hc := HC.out
  rw [hr] at hc
  have HC2 := hide hc
  clear hc HC
  by_cases hp : p < 0 ∨ 1000000000 < p
  · have hf : idF B E L n p = 1 := by unfold idF; rw [if_neg (by omega), if_pos hp]
    rw [hf, if_pos (by decide)]
    clear hf hr hl
    go_enter Try.func5, Try.ntmps5
    go_wp2_with (first | ((go_at_call 13; with_reducible refine (HC2.out _).mono ?_); rintro e w1 ⟨rfl, e1⟩; have z1 := e1.size) | ((go_at_call 14; with_reducible refine (out_no ?_ _).mono ?_); (focus omega); rintro e w' ⟨rfl, rfl⟩) | ((go_at_call 14; with_reducible refine (out_yes ?_ _).mono ?_); (focus omega); rintro e w' ⟨rfl, rfl⟩))
    go_ret2
    exact givesB_nil _ (Ext.trans (Ext.alloc _ _) e1)
  · have hf : idF B E L n p = 0 := by unfold idF; rw [if_neg (by omega), if_neg hp]
    rw [hf, if_neg (by decide)]
    obtain ⟨k, rfl⟩ : ∃ k : Nat, p = (k : Int) := ⟨p.toNat, by omega⟩
    have hk : k ≤ 1000000000 := by omega
    have hk0 : (0 : Int) ≤ (k : Int) := by omega
    have hk1 : (k : Int) ≤ 1000000000 := by omega
    rw [Int.toNat_natCast]
    clear hf hr hl hp
    go_enter Try.func5, Try.ntmps5
    go_wp2_with (first | ((go_at_call 13; with_reducible refine (HC2.out _).mono ?_); rintro e w1 ⟨rfl, e1⟩; have z1 := e1.size; have c0 := e1.cell ((Blk.new w 30 #[.int .i64 B, .int .i64 E, .int .i64 L, .slice A n c]).cell 0); have c1 := e1.cell ((Blk.new w 30 #[.int .i64 B, .int .i64 E, .int .i64 L, .slice A n c]).cell 1); have c2 := e1.cell ((Blk.new w 30 #[.int .i64 B, .int .i64 E, .int .i64 L, .slice A n c]).cell 2); have c3 := e1.cell ((Blk.new w 30 #[.int .i64 B, .int .i64 E, .int .i64 L, .slice A n c]).cell 3)) | ((go_at_call 16; with_reducible refine (keyId_any B E L (H.out.ext (Ext.trans (Ext.alloc _ _) e1)) hn k hk).mono ?_); rintro e w2 ⟨g2, rfl, a2, e2⟩) | ((go_at_call 14; with_reducible refine (out_no ?_ _).mono ?_); (focus omega); rintro e w' ⟨rfl, rfl⟩) | ((go_at_call 14; with_reducible refine (out_yes ?_ _).mono ?_); (focus omega); rintro e w' ⟨rfl, rfl⟩))
    go_ret2
    exact ⟨_, _, _, rfl, a2, Ext.trans (Ext.trans (Ext.alloc _ _) e1) e2⟩
set_option maxRecDepth 100000 in
set_option maxHeartbeats 4000000 in
theorem keyKeyOf_any (B E L : Int) {A A2 : Option Addr} {n c n2 d2 : Nat} {l s : List UInt8} {w : World} (h : At w 1 e8 A n c l) (h2 : At w 1 e8 A2 n2 d2 s) (p : Int) :
    Calls Try.prog 4 #[rotV B E L A n c, .slice A2 n2 d2, .int .i64 p] w (GivesB w (ofV B E L l s p) (ofF B E L n n2 p)) := by
  obtain ⟨i0, hi0, hz0, hz1, hz2⟩ := info_parts Try.infoK5
  have hl := h.len
  have hl2 := h2.len
  have HC := hide (fun W : World => keyCheckRotation_any B E L A n c W)
  have H := hide h
  have H2 := hide h2
  clear h h2
  unfold ofV
  rw [hl, hl2]
  by_cases hr : rotF B E L n = 0
  rotate_left
  · have hf : ofF B E L n n2 p = rotF B E L n := by unfold ofF; rw [if_pos hr]
    rw [hf, if_pos hr]
    have hr' : (rotF B E L n != 0) = true := by rw [bne_iff_ne]; exact hr
    generalize rotF B E L n = r at *
    clear hr hf hl hl2
    go_enter Try.func4, Try.ntmps4
    go_wp2_with (first | ((go_at_call 13; with_reducible refine (HC.out _).mono ?_); rintro e w1 ⟨rfl, e1⟩) | ((go_at_call 14; with_reducible refine (out_no ?_ _).mono ?_); (focus omega); rintro e w' ⟨rfl, rfl⟩) | ((go_at_call 14; with_reducible refine (out_yes ?_ _).mono ?_); (focus omega); rintro e w' ⟨rfl, rfl⟩))
    go_ret2
    exact givesB_nil _ (Ext.trans (Ext.alloc _ _) e1)
  obtain ⟨hB, hE, hL, hn⟩ := rotF_zero hr
  have hc := HC.out
  rw [hr] at hc
  have HC2 := hide hc
  clear hc HC
  by_cases hs : 100 < n2
  · have hf : ofF B E L n n2 p = 2 := by unfold ofF; rw [if_neg (by omega), if_pos hs]
    rw [hf, if_pos (by decide)]
    clear hf hr hl hl2
    go_enter Try.func4, Try.ntmps4
    go_wp2_with (first | ((go_at_call 13; with_reducible refine (HC2.out _).mono ?_); rintro e w1 ⟨rfl, e1⟩; have z1 := e1.size) | ((go_at_call 14; with_reducible refine (out_no ?_ _).mono ?_); (focus omega); rintro e w' ⟨rfl, rfl⟩) | ((go_at_call 14; with_reducible refine (out_yes ?_ _).mono ?_); (focus omega); rintro e w' ⟨rfl, rfl⟩))
    go_ret2
    exact givesB_nil _ (Ext.trans (Ext.alloc _ _) e1)
  have hs' : n2 ≤ 100 := by omega
  by_cases hp : p < 0 ∨ 1000000000 < p
  · have hf : ofF B E L n n2 p = 1 := by unfold ofF; rw [if_neg (by omega), if_neg hs, if_pos hp]
    rw [hf, if_pos (by decide)]
    clear hf hr hl hl2 hs
    go_enter Try.func4, Try.ntmps4
    go_wp2_with (first | ((go_at_call 13; with_reducible refine (HC2.out _).mono ?_); rintro e w1 ⟨rfl, e1⟩; have z1 := e1.size) | ((go_at_call 14; with_reducible refine (out_no ?_ _).mono ?_); (focus omega); rintro e w' ⟨rfl, rfl⟩) | ((go_at_call 14; with_reducible refine (out_yes ?_ _).mono ?_); (focus omega); rintro e w' ⟨rfl, rfl⟩))
    go_ret2
    exact givesB_nil _ (Ext.trans (Ext.alloc _ _) e1)
  · have hf : ofF B E L n n2 p = 0 := by unfold ofF; rw [if_neg (by omega), if_neg hs, if_neg hp]
    rw [hf, if_neg (by decide)]
    obtain ⟨k, rfl⟩ : ∃ k : Nat, p = (k : Int) := ⟨p.toNat, by omega⟩
    have hk : k ≤ 1000000000 := by omega
    have hk0 : (0 : Int) ≤ (k : Int) := by omega
    have hk1 : (k : Int) ≤ 1000000000 := by omega
    rw [Int.toNat_natCast]
    have HL2 := hide hl2
    clear hf hr hl hl2 hp hs
    go_enter Try.func4, Try.ntmps4
    go_wp2_with (first | ((go_at_call 13; with_reducible refine (HC2.out _).mono ?_); rintro e w1 ⟨rfl, e1⟩; have z1 := e1.size; have c0 := e1.cell ((Blk.new w 30 #[.int .i64 B, .int .i64 E, .int .i64 L, .slice A n c]).cell 0); have c1 := e1.cell ((Blk.new w 30 #[.int .i64 B, .int .i64 E, .int .i64 L, .slice A n c]).cell 1); have c2 := e1.cell ((Blk.new w 30 #[.int .i64 B, .int .i64 E, .int .i64 L, .slice A n c]).cell 2); have c3 := e1.cell ((Blk.new w 30 #[.int .i64 B, .int .i64 E, .int .i64 L, .slice A n c]).cell 3)) | ((go_at_call 14; with_reducible refine (out_no ?_ _).mono ?_); (focus omega); rintro e w' ⟨rfl, rfl⟩) | ((go_at_call 14; with_reducible refine (out_yes ?_ _).mono ?_); (focus omega); rintro e w' ⟨rfl, rfl⟩))
    have E0 : Ext w w1 := Ext.trans (Ext.alloc _ _) e1
    have s1 : ([] : List UInt8).length + n2 ≤ maxLen := by simp; unfold maxLen; omega
    have s2 : (([] : List UInt8).length + n2) * 1 ≤ 140737488355328 := by simp; omega
    have t1 : ([] ++ s).length + 16 ≤ maxLen := by rw [List.nil_append, HL2.out]; unfold maxLen; omega
    have t2 : (([] ++ s).length + 16) * 1 ≤ 140737488355328 := by rw [List.nil_append, HL2.out]; omega
    have u1 : ([] ++ s ++ idL l k).length = n2 + 16 := by simp [HL2.out, length_idL]
    have S1 := hide s1; have S2 := hide s2; have T1 := hide t1; have T2 := hide t2; have U1 := hide u1
    clear s1 s2 t1 t2 u1 e1
    go_region_held3 (fun w' => w'.cell? ⟨w.heap.size, 0, none⟩ = some (.int .i64 B) ∧ w'.cell? ⟨w.heap.size, 1, none⟩ = some (.int .i64 E) ∧ w'.cell? ⟨w.heap.size, 2, none⟩ = some (.int .i64 L) ∧ w'.cell? ⟨w.heap.size, 3, none⟩ = some (.slice A n c)) (first | go_keep | exact ⟨E7.cell c0, E7.cell c1, E7.cell c2, E7.cell c3⟩ | exact ⟨E6.cell c0, E6.cell c1, E6.cell c2, E6.cell c3⟩ | exact ⟨E3.cell c0, E3.cell c1, E3.cell c2, E3.cell c3⟩ | exact ⟨E5.cell c0, E5.cell c1, E5.cell c2, E5.cell c3⟩) (first
      | ((refine step_append_atK rfl (.const (.slice none 0 0)) (.tmp 21) 28 rfl w1.heap.size 5 i0 _ 1 Try.underlying28 hi0 hz0 hz1 hz2 rfl (by omega) len_e8 one_e8 (.slice none 0 0) [] rfl (Own.nil _ _ _ _ _) A2 n2 d2 s (by simp [Act.eval]) (H2.out.ext (Ext.trans E0 (by first | exact Ext.drew _ | exact E5))) S1.out S2.out (by first | exact Nat.le_refl _ | exact E5.size) ?_); intro v3 w3 o3 g3 _ _; have O3 := hide o3; have x3 := grown_ext g3; have E3 : Ext w1 w3 := (by first | exact Ext.trans (Ext.drew _) x3 | exact Ext.trans E5 x3); clear o3 g3)
      | ((go_at_call 16; with_reducible refine (keyId_any B E L (H.out.ext (Ext.trans E0 (by first | exact Ext.drew _ | exact E3))) hn k hk).mono ?_); rintro e w5 ⟨g5, rfl, a5, e5⟩; have P5 := hide a5; have E5 : Ext w1 w5 := (by first | exact Ext.trans (Ext.drew _) e5 | exact Ext.trans E3 e5); clear a5)
      | ((refine step_append_atK rfl (.tmp 22) (.tmp 25) 28 rfl w1.heap.size 5 i0 _ 1 Try.underlying28 hi0 hz0 hz1 hz2 rfl (by omega) len_e8 one_e8 v3 ([] ++ s) (by simp [Act.eval]) (by first | exact O3.out | exact O3.out.ext e5) (some ⟨g5, 0, none⟩) 16 16 (idL l k) (by simp [Act.eval]) (by first | exact P5.out | exact P5.out.ext x3) T1.out T2.out (by first | exact E3.size | exact E5.size) ?_); intro v6 w6 o6 g6 _ _; have O6 := hide o6; have E6 : Ext w1 w6 := (by first | exact Own.below O3.out E3 g6 (Nat.le_refl _) | exact Own.below (O3.out.ext e5) E5 g6 (Nat.le_refl _)); clear o6 g6; obtain ⟨A6, d6, hv6, a6⟩ := O6.out.at_ len_e8; rw [U1.out] at hv6 a6; subst hv6; have P6 := hide a6; clear a6)
      | ((go_at_call 15; with_reducible refine (digest_any P6.out (by omega)).mono ?_); rintro e w7 ⟨g7, rfl, o7, e7⟩; have O7 := hide (o7.atS len_e8); have E7 := Ext.trans E6 e7; clear o7))
    all_goals
      go_wp2
      go_ret2
      refine ⟨_, _, _, rfl, ?_, Ext.trans E0 E7⟩
      have q := O7.out
      rw [List.nil_append] at q
      exact q
theorem of_id {B E L p : Int} {n m : Nat} (h : ofF B E L n m p = 0) : idF B E L n p = 0 := by
  unfold ofF at h
  unfold idF
  by_cases h1 : rotF B E L n ≠ 0
  · rw [if_pos h1] at h; exact absurd h h1
  rw [if_neg h1] at h ⊢
  by_cases h2 : 100 < m
  · rw [if_pos h2] at h; omega
  rw [if_neg h2] at h
  by_cases h3 : p < 0 ∨ 1000000000 < p
  · rw [if_pos h3] at h; omega
  · rw [if_neg h3]
theorem ofV_len {B E L p : Int} {l s : List UInt8} (h : ofF B E L l.length s.length p = 0) : (ofV B E L l s p).length = 16 := by
  unfold ofV; rw [if_neg (fun hc => hc h)]; exact length_digest _
theorem ofV_none {B E L p : Int} {l s : List UInt8} (h : ofF B E L l.length s.length p ≠ 0) : ofV B E L l s p = [] := by
  unfold ofV; rw [if_pos h]
theorem idV_len {B E L p : Int} {l : List UInt8} (h : idF B E L l.length p = 0) : (idV B E L l p).length = 16 := by
  unfold idV; rw [if_neg (fun hc => hc h)]; exact length_idL _ _
theorem cod_back {m c s : Int} {k v b : List UInt8} {n1 n2 n : Nat} {l : List (Int × Int)} (hb : b.length = n) (h : codF m c s n1 n2 n l = 0) :
    (codV m c s false k v b n1 n2 n l).length = n ∧ codV m c s true k v (codV m c s false k v b n1 n2 n l) n1 n2 n l = b := by
  obtain ⟨h1, h2, h3⟩ := codF_zero h
  obtain ⟨_, _, hn⟩ := modeF_zero h2
  obtain ⟨hm, hm1, hc, hs, hc0⟩ := schF_zero h1
  obtain ⟨cn, rfl⟩ : ∃ q : Nat, c = (q : Int) := ⟨c.toNat, by omega⟩
  obtain ⟨sn, rfl⟩ : ∃ q : Nat, s = (q : Int) := ⟨s.toNat, by omega⟩
  have hP := (parts_chain h3 (by omega)).1
  have hM : ∀ p ∈ partsP l (n : Int), p.2 ≤ (b.length : Int) := fun p hp => by rw [hb]; exact (parts_mem h3 (by omega) hp).2.2
  have hV : ∀ (back : Bool) (y : List UInt8), codV m (cn : Int) (sn : Int) back k v y n1 n2 n l = (codK m cn sn back k v y (partsP l (n : Int))).1 := fun back y => by
    unfold codV; rw [if_neg (by omega), Int.toNat_natCast, Int.toNat_natCast]
  have hL := codK_len (m := m) (c := cn) (s := sn) (back := false) (k := k) (v := v) (b := b) hP hM
  rw [hV, hV]
  exact ⟨by rw [hL, hb], codK_back m cn sn k v b hP hM⟩
def cyF (m c s : Int) (b : List UInt8) : Int := codF m c s 16 8 b.length []
def cyV (m c s : Int) (k v b : List UInt8) : List UInt8 := codV m c s false k v b 16 8 b.length []
theorem cyV_back {m c s : Int} {k v b : List UInt8} (h : cyF m c s b = 0) : (cyV m c s k v b).length = b.length ∧ codV m c s true k v (cyV m c s k v b) 16 8 b.length [] = b := cod_back rfl h
theorem cyV_none {m c s : Int} {k v b : List UInt8} (h : cyF m c s b ≠ 0) : cyV m c s k v b = [] := codV_none h
end Go.Proofs.Ytkbmgakehlmcnaa
namespace Go.Proofs.Ytkbmgakehlmcnaa
def szN : List Smp → Nat
  | [] => 0
  | x :: r => x.size.toNat + szN r
theorem szN_app : ∀ a b : List Smp, szN (a ++ b) = szN a + szN b
  | [], b => by simp [szN]
  | x :: a, b => by rw [List.cons_append, szN, szN, szN_app a b]; omega
theorem szN_take {l : List Smp} {k : Nat} (h : k < l.length) : szN (l.take (k + 1)) = szN (l.take k) + (l.getD k dS).size.toNat := by
  rw [List.take_succ_eq_append_getElem h, szN_app]
  simp [szN, List.getD, h]
theorem szN_le (l : List Smp) (k : Nat) : szN (l.take k) ≤ szN l := by
  conv => rhs; rw [← List.take_append_drop k l, szN_app]
  omega
theorem szN_mono (l : List Smp) {j k : Nat} (h : j ≤ k) : szN (l.take j) ≤ szN (l.take k) := by
  have := szN_le (l.take k) j
  rwa [List.take_take, Nat.min_eq_left h] at this
def szOk (l : List Smp) : Prop := ∀ k, k < l.length → 0 ≤ (l.getD k dS).size ∧ (l.getD k dS).size ≤ 100000
theorem szOk_of {l : List Smp} (h : smpF l = 0) : szOk l := fun k hk => (badS_ok (smpEl_zero ((smpF_zero h).2.1 k hk)).1).2.2.2
theorem szN_few {l : List Smp} (h : szOk l) {a b : Nat} (hab : a ≤ b) (hb : b ≤ l.length) : szN (l.take b) ≤ szN (l.take a) + 100000 * (b - a) := by
  induction b with
  | zero =>
    have : a = 0 := by omega
    subst this; simp
  | succ b ih =>
    by_cases he : a = b + 1
    · subst he; simp
    · have h1 := ih (by omega) (by omega)
      have h2 := h b (by omega)
      rw [szN_take (by omega)]
      have h3 : b + 1 - a = (b - a) + 1 := by omega
      rw [h3, Nat.mul_add]
      omega
structure LayS where
  pl : List (List Int)
  out : List UInt8
def pcB (b : List UInt8) (i j : Nat) : List UInt8 := (b.drop i).take (j - i)
theorem pcB_len {b : List UInt8} {i j : Nat} (h : i ≤ j) (hj : j ≤ b.length) : (pcB b i j).length = j - i := by unfold pcB; rw [List.length_take, List.length_drop]; omega
def layI (T : List TrkT) (D : List (List UInt8)) (ch from_ n i : Nat) (s : LayS) : LayS :=
  if (T.getD i default).smp.length ≤ n * ch then s
  else ⟨s.pl.set i (s.pl.getD i [] ++ [((from_ + s.out.length : Nat) : Int)]), s.out ++ pcB (D.getD i []) (szN ((T.getD i default).smp.take (n * ch))) (szN ((T.getD i default).smp.take (min (n * ch + ch) (T.getD i default).smp.length)))⟩
def layK (T : List TrkT) (D : List (List UInt8)) (ch from_ n : Nat) (s : LayS) : Nat → LayS
  | 0 => s
  | i + 1 => layI T D ch from_ n i (layK T D ch from_ n s i)
def layR (T : List TrkT) (D : List (List UInt8)) (ch from_ : Nat) : Nat → LayS
  | 0 => ⟨List.replicate T.length [], []⟩
  | n + 1 => layK T D ch from_ n (layR T D ch from_ n) T.length
def roundsN : Nat := 5001
def layF (T : List TrkT) (D : List (List UInt8)) (ch from_ : Nat) : LayS := layR T D ch from_ roundsN
section
variable {T : List TrkT} {D : List (List UInt8)} {ch from_ : Nat}
theorem layK_still {n : Nat} {s : LayS} (h : ∀ i, i < T.length → (T.getD i default).smp.length ≤ n * ch) : ∀ k, k ≤ T.length → layK T D ch from_ n s k = s
  | 0, _ => rfl
  | k + 1, hk => by rw [layK, layK_still h k (by omega), layI, if_pos (h k (by omega))]
theorem layR_still {n : Nat} (h : ∀ i, i < T.length → (T.getD i default).smp.length ≤ n * ch) : ∀ j, layR T D ch from_ (n + j) = layR T D ch from_ n
  | 0 => rfl
  | j + 1 => by
    rw [show n + (j + 1) = (n + j) + 1 by omega, layR, layR_still h j]
    exact layK_still (fun i hi => Nat.le_trans (h i hi) (Nat.mul_le_mul_right _ (by omega))) _ (Nat.le_refl _)
theorem layF_at {n : Nat} (h : ∀ i, i < T.length → (T.getD i default).smp.length ≤ n * ch) (hn : n ≤ 5001) : layF T D ch from_ = layR T D ch from_ n := by
  obtain ⟨j, hj⟩ : ∃ j, roundsN = n + j := ⟨5001 - n, by unfold roundsN; omega⟩
  unfold layF
  rw [hj]
  exact layR_still h j
theorem layI_len {n i : Nat} {s : LayS} : (layI T D ch from_ n i s).pl.length = s.pl.length := by
  unfold layI; split
  · rfl
  · exact List.length_set
theorem layK_len {n : Nat} {s : LayS} : ∀ k, (layK T D ch from_ n s k).pl.length = s.pl.length
  | 0 => rfl
  | k + 1 => by rw [layK, layI_len, layK_len k]
theorem layR_len : ∀ n, (layR T D ch from_ n).pl.length = T.length
  | 0 => List.length_replicate
  | n + 1 => by rw [layR, layK_len, layR_len n]
set_option maxRecDepth 100000 in
theorem layI_out {n i : Nat} {s : LayS} (hs : szOk (T.getD i default).smp) (hc : ch ≤ 1000) : (layI T D ch from_ n i s).out.length ≤ s.out.length + 100000000 := by
  unfold layI; split
  · omega
  · rename_i h
    simp only [List.length_append]
    have h1 : (pcB (D.getD i []) (szN ((T.getD i default).smp.take (n * ch))) (szN ((T.getD i default).smp.take (min (n * ch + ch) (T.getD i default).smp.length)))).length ≤ 100000000 := by
      unfold pcB
      rw [List.length_take]
      have h2 := szN_few hs (a := n * ch) (b := min (n * ch + ch) (T.getD i default).smp.length) (by omega) (by omega)
      have h3 : 100000 * (min (n * ch + ch) (T.getD i default).smp.length - n * ch) ≤ 100000 * 1000 := Nat.mul_le_mul_left _ (by omega)
      omega
    omega
set_option maxRecDepth 100000 in
theorem layK_out {n : Nat} {s : LayS} (hs : ∀ i, i < T.length → szOk (T.getD i default).smp) (hc : ch ≤ 1000) : ∀ k, k ≤ T.length → (layK T D ch from_ n s k).out.length ≤ s.out.length + 100000000 * k
  | 0, _ => by simp [layK]
  | k + 1, hk => by
    have h1 := layK_out (n := n) (s := s) hs hc k (by omega)
    have h2 := layI_out (D := D) (from_ := from_) (n := n) (s := layK T D ch from_ n s k) (hs k (by omega)) hc
    rw [layK]
    refine Nat.le_trans h2 ?_
    rw [Nat.mul_succ, ← Nat.add_assoc]
    exact Nat.add_le_add_right h1 _
set_option maxRecDepth 100000 in
theorem layR_out (hs : ∀ i, i < T.length → szOk (T.getD i default).smp) (hc : ch ≤ 1000) (h8 : T.length ≤ 8) : ∀ n, (layR T D ch from_ n).out.length ≤ 800000000 * n
  | 0 => by simp [layR]
  | n + 1 => by
    have h1 := layR_out hs hc h8 n
    have h2 := layK_out (D := D) (from_ := from_) (n := n) (s := layR T D ch from_ n) hs hc T.length (Nat.le_refl _)
    rw [layR, Nat.mul_succ]
    have h3 : 100000000 * T.length ≤ 800000000 := Nat.le_trans (Nat.mul_le_mul_left _ h8) (by decide)
    exact Nat.le_trans h2 (Nat.add_le_add h1 h3)
theorem layI_few {n i j : Nat} {s : LayS} (h5 : (T.getD i default).smp.length ≤ 5000) (hc : 1 ≤ ch) (hp : (s.pl.getD j []).length ≤ 5000) (hn : i = j → (s.pl.getD j []).length ≤ n) : ((layI T D ch from_ n i s).pl.getD j []).length ≤ 5000 ∧ ((layI T D ch from_ n i s).pl.getD j []).length ≤ (s.pl.getD j []).length + (if i = j then 1 else 0) := by
  unfold layI; split
  · exact ⟨hp, by omega⟩
  · rename_i h
    simp only [List.getD_eq_getElem?_getD, List.getElem?_set]
    by_cases hij : i = j
    · subst hij
      have h1 : n < 5000 := by
        have : n * 1 ≤ n * ch := Nat.mul_le_mul_left _ hc
        omega
      have hn2 := hn rfl
      simp only [List.getD_eq_getElem?_getD] at hn2
      by_cases hl : i < s.pl.length
      · simp [hl] at hn2 ⊢
        omega
      · simp [hl]
    · simp only [hij, if_false]
      simp only [List.getD_eq_getElem?_getD] at hp
      exact ⟨hp, by omega⟩
theorem layK_few {n : Nat} {s : LayS} (h5 : ∀ i, i < T.length → (T.getD i default).smp.length ≤ 5000) (hc : 1 ≤ ch) (hp : ∀ j, (s.pl.getD j []).length ≤ 5000 ∧ (s.pl.getD j []).length ≤ n) : ∀ k, k ≤ T.length → ∀ j, ((layK T D ch from_ n s k).pl.getD j []).length ≤ 5000 ∧ ((layK T D ch from_ n s k).pl.getD j []).length ≤ n + (if j < k then 1 else 0)
  | 0, _, j => by rw [layK]; exact ⟨(hp j).1, by have := (hp j).2; omega⟩
  | k + 1, hk, j => by
    have ih := layK_few h5 hc hp k (by omega) j
    have h1 := layI_few (D := D) (from_ := from_) (n := n) (i := k) (j := j) (s := layK T D ch from_ n s k) (h5 k (by omega)) hc ih.1 (fun e => by have := ih.2; rw [if_neg (by omega)] at this; omega)
    rw [layK]
    refine ⟨h1.1, ?_⟩
    have h2 := h1.2
    have h3 := ih.2
    by_cases hkj : k = j
    · subst hkj
      rw [if_pos rfl] at h2
      rw [if_neg (by omega)] at h3
      rw [if_pos (by omega)]
      omega
    · rw [if_neg hkj] at h2
      by_cases hlt : j < k
      · rw [if_pos hlt] at h3; rw [if_pos (by omega)]; omega
      · rw [if_neg hlt] at h3; rw [if_neg (by omega)]; omega
theorem layR_few (h5 : ∀ i, i < T.length → (T.getD i default).smp.length ≤ 5000) (hc : 1 ≤ ch) : ∀ n j, ((layR T D ch from_ n).pl.getD j []).length ≤ 5000 ∧ ((layR T D ch from_ n).pl.getD j []).length ≤ n
  | 0, j => by
    have : ((layR T D ch from_ 0).pl.getD j []) = [] := by
      rw [layR]
      simp only [List.getD_eq_getElem?_getD, List.getElem?_replicate]
      split <;> rfl
    rw [this]; simp
  | n + 1, j => by
    have h1 := layK_few (D := D) (from_ := from_) (n := n) h5 hc (layR_few h5 hc n) T.length (Nat.le_refl _) j
    rw [layR]
    refine ⟨h1.1, ?_⟩
    have h2 := h1.2
    split at h2 <;> omega
end
def beN : Nat → Nat → List UInt8
  | 0, _ => []
  | m + 1, n => beN m (n / 256) ++ [UInt8.ofNat n]
theorem beN_len : ∀ (m n : Nat), (beN m n).length = m
  | 0, _ => rfl
  | m + 1, n => by rw [beN, List.length_append, beN_len m]; rfl
theorem beN_step (n k many : Nat) (hk : k < many) : beN (many - k) (n / 256 ^ k) = beN (many - (k + 1)) (n / 256 ^ (k + 1)) ++ [UInt8.ofNat (n / 256 ^ k)] := by
  rw [show many - k = (many - (k + 1)) + 1 by omega, beN, Nat.div_div_eq_div_mul, Nat.pow_succ]
theorem beN_numB : ∀ (m n : Nat), n < 256 ^ m → numB (beN m n) = n
  | 0, n, h => by
    have : n = 0 := by simpa using h
    subst this; rfl
  | m + 1, n, h => by
    rw [beN, numB_snoc, beN_numB m (n / 256) (by rw [Nat.pow_succ] at h; exact Nat.div_lt_of_lt_mul (by rw [Nat.mul_comm]; exact h))]
    rw [UInt8.toNat_ofNat']
    omega
end Go.Proofs.Ytkbmgakehlmcnaa
namespace Go.Proofs.Ytkbmgakehlmcnaa
open Go.RowKit
theorem strOf_eq (l : List UInt8) : strOfNums (l.map fun c => (c.toNat : Int)) = ⟨l.toArray⟩ := by
  unfold strOfNums
  rw [List.map_map]
  congr 2
  conv => rhs; rw [← List.map_id l]
  apply List.map_congr_left
  intro c _
  simp
theorem conv_bytes {A : Option Addr} {n c : Nat} {l : List UInt8} {W : World} (h : At W 1 e8 A n c l) (hn : 0 < n) : (convert 28 9 (.slice A n c)).run Try.prog W = .ok (.string ⟨l.toArray⟩) W := by
  obtain ⟨b, off, rfl, _⟩ := h.addr hn
  have hl := h.len
  rw [run_convert_bytes_arg W 28 5 Try.underlying28 Try.underlying5 b off n c (l.map fun c => (c.toNat : Int)) (by simp; omega) (fun i hi => by
    rw [h.byte (k := i) (by omega)]
    simp [List.getD, show i < l.length by omega]) 9 Try.underlying9, strOf_eq]
def HeadGives (w : World) (gn f : Nat) (r : Option (List UInt8 × Int × Nat × Nat)) (e : Ending) (w' : World) : Prop :=
  Tw w w' gn none ∧ (r = none → e = .returned (.bool false)) ∧ (∀ k fo d x, r = some (k, fo, d, x) → e = .returned (.bool true) ∧ Blk w' gn 122 #[.string ⟨k.toArray⟩, .int .i64 fo, .slice none 0 0, .slice none 0 0, .int .i64 (f : Int), .int .i64 (d : Int), .int .i64 (x : Int), .slice none 0 0])
theorem HeadGives.no {w w' : World} {gn f : Nat} {r : Option (List UInt8 × Int × Nat × Nat)} (h : r = none) (hT : Tw w w' gn none) : HeadGives w gn f r (.returned (.bool false)) w' :=
  ⟨hT, fun _ => rfl, (fun k fo d x h' => by rw [h] at h'; cases h')⟩
theorem HeadGives.yes {w w' : World} {gn f : Nat} {r : Option (List UInt8 × Int × Nat × Nat)} {k : List UInt8} {fo : Int} {d x : Nat} (h : r = some (k, fo, d, x)) (hT : Tw w w' gn none)
    (hN : Blk w' gn 122 #[.string ⟨k.toArray⟩, .int .i64 fo, .slice none 0 0, .slice none 0 0, .int .i64 (f : Int), .int .i64 (d : Int), .int .i64 (x : Int), .slice none 0 0]) : HeadGives w gn f r (.returned (.bool true)) w' :=
  ⟨hT, (fun h' => by rw [h] at h'; cases h'), (fun k fo d x h' => by rw [h] at h'; cases h'; exact ⟨rfl, hN⟩)⟩
set_option linter.unusedVariables false in
set_option linter.unusedSimpArgs false in
set_option maxRecDepth 100000 in
set_option maxHeartbeats 8000000 in
theorem head_any {gp gn f t : Nat} {A : Option Addr} {n c : Nat} {b : List UInt8} {cnt : Int} {w : World} (hp : Blk w gp 119 #[.slice A n c, .int .i64 cnt]) (hn : Blk w gn 122 #[.string ⟨#[]⟩, .int .i64 0, .slice none 0 0, .slice none 0 0, .int .i64 (f : Int), .int .i64 0, .int .i64 0, .slice none 0 0])
    (hb : At w 1 e8 A n c b) (hg : gp ≠ gn) (hA : ∀ a, A = some a → a.block ≠ gn) (h1 : f < t) (h2 : t ≤ n) (h3 : n ≤ 1000000) :
    Calls Try.prog 76 #[.pointer (some ⟨gp, 0, none⟩), .pointer (some ⟨gn, 0, none⟩), .int .i64 (t : Int)] w (HeadGives w gn f (headP b f t)) := by
  have hle := hb.le
  have hlen := hb.len
  have HB := hide hb
  have P0 := hide hp
  have N0 := hide hn
  have hv : headP b f t = if t - f < 8 then none
      else if numB (cutB b f (f + 4)) = 1 then (if t - f < 16 then none else headF (cutB b (f + 4) (f + 8)) 1 f (t - f) (f + 16) (numB (cutB b (f + 8) (f + 16))))
      else if numB (cutB b f (f + 4)) = 0 then headF (cutB b (f + 4) (f + 8)) 2 f (t - f) (f + 8) (t - f)
      else headF (cutB b (f + 4) (f + 8)) 0 f (t - f) (f + 8) (numB (cutB b f (f + 4))) := rfl
  have c4 := hn.cell 4
  by_cases hs : t - f < 8
  · have HV : Hid (headP b f t = none) := hide (by rw [hv, if_pos hs])
    clear hv hp hn hb hlen
    have i1 : (t : Int) - (f : Int) < 8 := by omega
    go_enter Try.func76, Try.ntmps76
    go_wp2_with fail
    go_ret
    exact HeadGives.no HV.out (Tw.refl _ _ _)
  rw [if_neg hs] at hv
  have i8 : (8 : Int) ≤ (t : Int) - (f : Int) := by omega
  have hcap : f + 8 ≤ c := by omega
  obtain ⟨A1, hr1, ha1⟩ := hb.range_ Try.underlying28 (fun _ => by kernel_rfl) (k := f) (m := f + 4) (by omega) (by omega) (f : Int) ((f : Int) + 4) rfl (by omega)
  obtain ⟨A2, hr2, ha2⟩ := hb.range_ Try.underlying28 (fun _ => by kernel_rfl) (k := f + 4) (m := f + 8) (by omega) (by omega) ((f : Int) + 4) ((f : Int) + 8) (by omega) (by omega)
  have e1 : (b.drop f).take (f + 4 - f) = cutB b f (f + 4) := rfl
  have e2 : (b.drop (f + 4)).take (f + 8 - (f + 4)) = cutB b (f + 4) (f + 8) := rfl
  rw [e1] at ha1
  rw [e2] at ha2
  rw [show f + 4 - f = 4 by omega] at hr1 ha1
  rw [show f + 8 - (f + 4) = 4 by omega] at hr2 ha2
  have hk4 : (cutB b (f + 4) (f + 8)).length = 4 := by unfold cutB; rw [List.length_take, List.length_drop]; omega
  have hn4 : (cutB b f (f + 4)).length = 4 := by unfold cutB; rw [List.length_take, List.length_drop]; omega
  have hq := numB_lt 4 _ hn4
  have HN1 := hide (fun (W : World) (hW : Ext w W) => numberOf_any (ha1 W (HB.out.ext hW)) (by omega))
  have HCV := hide (fun (W : World) (hW : At W 1 e8 A n c b) => conv_bytes (ha2 W hW) (by omega))
  have HIK := hide (fun (W : World) => isKind_any ⟨(cutB b (f + 4) (f + 8)).toArray⟩ W (by simp [ByteArray.size, hk4, maxLen]))
  generalize numB (cutB b f (f + 4)) = q at *
  have HR1 := hide hr1
  have HR2 := hide hr2
  have HV := hide hv
  have w4 : IntKind.i64.wrap ((f : Int) + 4) = (f : Int) + 4 := by rw [IntKind.wrap_i64]; omega
  have w8 : IntKind.i64.wrap ((f : Int) + 8) = (f : Int) + 8 := by rw [IntKind.wrap_i64]; omega
  have p0 := hp.cell 0
  clear hv hp hn hb hlen hr1 hr2 ha1 ha2 e1 e2 hk4 hn4
  go_enter Try.func76, Try.ntmps76
  go_wp2_with fail
  have hr1 := HR1.out
  go_quiet ((go_at_call 55; exact quiet_left (HN1.out _ (Ext.drewN _ _))))
  go_wp2_with fail
  refine gen_wpC fun w1 hw1 => ?_
  have X1 : Hid (Ext w w1) := hide (by rw [hw1]; exact Ext.drewN _ _)
  have N1 := hide (N0.out.ext X1.out)
  have P1 := hide (P0.out.ext X1.out)
  clear hw1 p0 c4
  have p0 : w1.cell? ⟨gp, 0, none⟩ = some (.slice A n c) := P1.out.cell 0
  have c4 : w1.cell? ⟨gn, 4, none⟩ = some (.int .i64 (f : Int)) := N1.out.cell 4
  have hr2 := HR2.out
  have hcv := HCV.out w1.drew ((HB.out.ext X1.out).ext (Ext.drew _))
  have hcw := HCV.out w1 (HB.out.ext X1.out)
  go_still_tail 20, (by kernel_rfl)
  change wpList _ _ _ _ _ w1.drew
  have X2 : Hid (Ext w w1.drew) := hide (Ext.trans X1.out (Ext.drew _))
  have N2 := hide N1.out.drew
  have P2 := hide P1.out.drew
  clear hcv hcw p0 c4
  generalize w1.drew = w2 at *
  have p0 : w2.cell? ⟨gp, 0, none⟩ = some (.slice A n c) := P2.out.cell 0
  have c0 : w2.cell? ⟨gn, 0, none⟩ = some (.string ⟨#[]⟩) := N2.out.cell 0
  have z0 : w2.frozen? ⟨gn, 0, none⟩ = false := N2.out.frozen 0
  have c1 : w2.cell? ⟨gn, 1, none⟩ = some (.int .i64 0) := N2.out.cell 1
  have z1 : w2.frozen? ⟨gn, 1, none⟩ = false := N2.out.frozen 1
  have c2 : w2.cell? ⟨gn, 2, none⟩ = some (.slice none 0 0) := N2.out.cell 2
  have z2 : w2.frozen? ⟨gn, 2, none⟩ = false := N2.out.frozen 2
  have c3 : w2.cell? ⟨gn, 3, none⟩ = some (.slice none 0 0) := N2.out.cell 3
  have z3 : w2.frozen? ⟨gn, 3, none⟩ = false := N2.out.frozen 3
  have c4 : w2.cell? ⟨gn, 4, none⟩ = some (.int .i64 (f : Int)) := N2.out.cell 4
  have z4 : w2.frozen? ⟨gn, 4, none⟩ = false := N2.out.frozen 4
  have c5 : w2.cell? ⟨gn, 5, none⟩ = some (.int .i64 0) := N2.out.cell 5
  have z5 : w2.frozen? ⟨gn, 5, none⟩ = false := N2.out.frozen 5
  have c6 : w2.cell? ⟨gn, 6, none⟩ = some (.int .i64 0) := N2.out.cell 6
  have z6 : w2.frozen? ⟨gn, 6, none⟩ = false := N2.out.frozen 6
  have c7 : w2.cell? ⟨gn, 7, none⟩ = some (.slice none 0 0) := N2.out.cell 7
  have z7 : w2.frozen? ⟨gn, 7, none⟩ = false := N2.out.frozen 7
  clear N1 P1 X1
  have T0 := hide (Tw.of_ext X2.out gn none)
  have HBT := hide (fun (W : World) (hT : Tw w W gn none) => HB.out.tw hT (fun a ha => ⟨hA a ha, by simp⟩))
  have hkb : isKindB (cutB b (f + 4) (f + 8)) = isKindB (cutB b (f + 4) (f + 8)) := rfl
  have HIK := hide (fun (W : World) => (show Calls Try.prog 85 #[.string ⟨(cutB b (f + 4) (f + 8)).toArray⟩] W (fun e w' => e = .returned (.bool (isKindB (cutB b (f + 4) (f + 8)))) ∧ W = w') from HIK.out W))
  have HHF := hide (fun (fo : Int) (l d s : Nat) => (show headF (cutB b (f + 4) (f + 8)) fo f l d s = if isKindB (cutB b (f + 4) (f + 8)) = true ∧ d - f ≤ s ∧ s ≤ l then some (cutB b (f + 4) (f + 8), fo, d, f + s) else none from rfl))
  clear hkb
  generalize isKindB (cutB b (f + 4) (f + 8)) = kb at *
  have u1 : IntKind.u64.wrap ((t : Int) - (f : Int)) = (t : Int) - (f : Int) := by rw [IntKind.wrap_u64]; omega
  by_cases hq1 : q = 1
  · have j1 : ((q : Int) == 1) = true := by simp [hq1]
    by_cases hs16 : t - f < 16
    · have HV : Hid (headP b f t = none) := hide (by rw [HV.out, if_pos hq1, if_pos hs16])
      have j2 : (t : Int) - (f : Int) < 16 := by omega
      clear hq1
      go_wp2_with fail
      refine gen_bod fun w9 h9 => ?_
      have T9 : Tw w w9 gn none := by rw [h9]; (repeat' (first | (with_reducible exact T0.out) | (with_reducible refine Tw.trans ?_ (Tw.set_ _ _ _ _ _))))
      clear h9
      go_ret
      exact HeadGives.no HV.out T9
    have j2 : (16 : Int) ≤ (t : Int) - (f : Int) := by omega
    have HV : Hid (headP b f t = headF (cutB b (f + 4) (f + 8)) 1 f (t - f) (f + 16) (numB (cutB b (f + 8) (f + 16)))) := hide (by rw [HV.out, if_pos hq1, if_neg hs16])
    obtain ⟨A3, hr3, ha3⟩ := HB.out.range_ Try.underlying28 (fun _ => by kernel_rfl) (k := f + 8) (m := f + 16) (by omega) (by omega) ((f : Int) + 8) ((f : Int) + 16) (by omega) (by omega)
    have e3 : (b.drop (f + 8)).take (f + 16 - (f + 8)) = cutB b (f + 8) (f + 16) := rfl
    rw [e3] at ha3
    rw [show f + 16 - (f + 8) = 8 by omega] at hr3 ha3
    have HN2 := hide (fun (W : World) (hW : At W 1 e8 A n c b) => numberOf_any (ha3 W hW) (by omega))
    generalize numB (cutB b (f + 8) (f + 16)) = sz at *
    have HR3 := hide hr3
    clear hr3 ha3 e3 hq1 hr2
    go_wp2_with fail
    refine gen_wpC fun w3 h3 => ?_
    obtain ⟨d, hd⟩ : ∃ d : Nat, d = f + 16 := ⟨_, rfl⟩
    have N3 : Hid (Blk w3 gn 122 #[.string ⟨(cutB b (f + 4) (f + 8)).toArray⟩, .int .i64 1, .slice none 0 0, .slice none 0 0, .int .i64 (f : Int), .int .i64 (d : Int), .int .i64 0, .slice none 0 0]) := hide (by rw [h3, show (d : Int) = (f : Int) + 16 by omega]; exact (((N2.out.set_ 0 _).set_ 5 _).set_ 1 _).set_ 5 _)
    have T3 : Hid (Tw w w3 gn none) := hide (by rw [h3]; (repeat' (first | (with_reducible exact T0.out) | (with_reducible refine Tw.trans ?_ (Tw.set_ _ _ _ _ _)))))
    have P3 := hide (T3.out.blk P0.out hg (by simp))
    have HV : Hid (headP b f t = headF (cutB b (f + 4) (f + 8)) 1 f (t - f) d sz) := hide (by rw [HV.out, hd])
    have hd1 : f + 8 ≤ d := by omega
    have hd2 : d ≤ f + 16 := by omega
    clear h3 hd p0 c0 z0 c1 z1 c2 z2 c3 z3 c4 z4 c5 z5 c6 z6 c7 z7 N2 P2 X2
    have w16 : IntKind.i64.wrap ((f : Int) + 16) = (f : Int) + 16 := by rw [IntKind.wrap_i64]; omega
    have p0 : w3.cell? ⟨gp, 0, none⟩ = some (.slice A n c) := P3.out.cell 0
    have c4 : w3.cell? ⟨gn, 4, none⟩ = some (.int .i64 (f : Int)) := N3.out.cell 4
    have hr3 := HR3.out
    have H3 := hide (HBT.out w3 T3.out)
    go_quiet ((go_at_call 55; exact quiet_left (HN2.out _ (H3.out.ext (Ext.drewN _ _)))))
    clear p0 c4 hr3
    go_wp2_with fail
    refine gen_wpC fun w4 h4 => ?_
    have X4 : Hid (Ext w3 w4) := hide (by rw [h4]; exact Ext.drewN _ _)
    have N4 := hide (N3.out.ext X4.out)
    have T4 := hide (T3.out.trans (Tw.of_ext X4.out gn none))
    clear h4 X4 N3 T3 H3
    have c0 : w4.cell? ⟨gn, 0, none⟩ = some (.string ⟨(cutB b (f + 4) (f + 8)).toArray⟩) := N4.out.cell 0
    have c4 : w4.cell? ⟨gn, 4, none⟩ = some (.int .i64 (f : Int)) := N4.out.cell 4
    have c5 : w4.cell? ⟨gn, 5, none⟩ = some (.int .i64 (d : Int)) := N4.out.cell 5
    have c6 : w4.cell? ⟨gn, 6, none⟩ = some (.int .i64 0) := N4.out.cell 6
    have z6 : w4.frozen? ⟨gn, 6, none⟩ = false := N4.out.frozen 6
    have u2 : IntKind.u64.wrap ((d : Int) - (f : Int)) = (d : Int) - (f : Int) := by rw [IntKind.wrap_u64]; omega
    have u3 : IntKind.i64.wrap ((d : Int) - (f : Int)) = (d : Int) - (f : Int) := by rw [IntKind.wrap_i64]; omega
    cases kb with
    | false =>
      have HRES : Hid (headP b f t = none) := hide (by rw [HV.out, HHF.out, if_neg (fun h => Bool.noConfusion h.1)])
      clear HV
      go_quiet ((go_at_call 85; exact quiet_left (HIK.out _)))
      go_wp2_with fail
      refine gen_bod fun w9 h9 => ?_
      have T9 : Tw w w9 gn none := by rw [h9]; (repeat' (first | (with_reducible exact T4.out) | (with_reducible refine Tw.drewN ?_ _) | (with_reducible refine Tw.trans ?_ (Tw.set_ _ _ _ _ _))))
      clear h9
      go_ret
      exact HeadGives.no HRES.out T9
    | true =>
      by_cases hs1 : sz < d - f
      · have g1 : decide ((sz : Int) < (d : Int) - (f : Int)) = true := by simp; omega
        have HRES : Hid (headP b f t = none) := hide (by rw [HV.out, HHF.out, if_neg (fun h => by have := h.2.1; omega)])
        clear HV hs1
        go_quiet ((go_at_call 85; exact quiet_left (HIK.out _)))
        go_wp2_with fail
        refine gen_bod fun w9 h9 => ?_
        have T9 : Tw w w9 gn none := by rw [h9]; (repeat' (first | (with_reducible exact T4.out) | (with_reducible refine Tw.drewN ?_ _) | (with_reducible refine Tw.trans ?_ (Tw.set_ _ _ _ _ _))))
        clear h9
        go_ret
        exact HeadGives.no HRES.out T9
      have g1 : decide ((sz : Int) < (d : Int) - (f : Int)) = false := by simp; omega
      by_cases hs2 : t - f < sz
      · have g2 : decide ((t : Int) - (f : Int) < (sz : Int)) = true := by simp; omega
        have HRES : Hid (headP b f t = none) := hide (by rw [HV.out, HHF.out, if_neg (fun h => by have := h.2.2; omega)])
        clear HV hs1 hs2
        go_quiet ((go_at_call 85; exact quiet_left (HIK.out _)))
        go_wp2_with fail
        refine gen_bod fun w9 h9 => ?_
        have T9 : Tw w w9 gn none := by rw [h9]; (repeat' (first | (with_reducible exact T4.out) | (with_reducible refine Tw.drewN ?_ _) | (with_reducible refine Tw.trans ?_ (Tw.set_ _ _ _ _ _))))
        clear h9
        go_ret
        exact HeadGives.no HRES.out T9
      have g2 : decide ((t : Int) - (f : Int) < (sz : Int)) = false := by first | (simp; done) | (simp; omega)
      have v1 : IntKind.i64.wrap ((sz : Int)) = (sz : Int) := by rw [IntKind.wrap_i64]; omega
      have hs3 : (sz : Int) ≤ 1000000 := by omega
      obtain ⟨x, hx⟩ : ∃ x : Nat, x = f + (sz) := ⟨_, rfl⟩
      have HRES : Hid (headP b f t = some (cutB b (f + 4) (f + 8), 1, d, x)) := hide (by rw [HV.out, HHF.out, if_pos ⟨rfl, by omega, by omega⟩, hx])
      have HX := hide hx
      clear hx hs1 hs2
      go_quiet ((go_at_call 85; exact quiet_left (HIK.out _)))
      go_wp2_with fail
      refine gen_bod fun w9 h9 => ?_
      have T9 : Tw w w9 gn none := by rw [h9]; (repeat' (first | (with_reducible exact T4.out) | (with_reducible refine Tw.drewN ?_ _) | (with_reducible refine Tw.trans ?_ (Tw.set_ _ _ _ _ _))))
      have N9 : Blk w9 gn 122 #[.string ⟨(cutB b (f + 4) (f + 8)).toArray⟩, .int .i64 1, .slice none 0 0, .slice none 0 0, .int .i64 (f : Int), .int .i64 (d : Int), .int .i64 (x : Int), .slice none 0 0] := by rw [h9, show (x : Int) = (f : Int) + ((sz : Int)) by have := HX.out; omega]; first | exact (N4.out.drewN _).set_ 6 _ | exact (N4.out.set_ 6 _).drewN _
      clear h9
      go_ret
      exact HeadGives.yes HRES.out T9 N9
  by_cases hq0 : q = 0
  · have j1 : ((q : Int) == 1) = false := by simp; omega
    have j0 : ((q : Int) == 0) = true := by simp [hq0]
    have HV : Hid (headP b f t = headF (cutB b (f + 4) (f + 8)) 2 f (t - f) (f + 8) (t - f)) := hide (by rw [HV.out, if_neg hq1, if_pos hq0])
    clear hq1 hq0 hr2
    go_wp2_with fail
    refine gen_wpC fun w3 h3 => ?_
    obtain ⟨d, hd⟩ : ∃ d : Nat, d = f + 8 := ⟨_, rfl⟩
    have N3 : Hid (Blk w3 gn 122 #[.string ⟨(cutB b (f + 4) (f + 8)).toArray⟩, .int .i64 2, .slice none 0 0, .slice none 0 0, .int .i64 (f : Int), .int .i64 (d : Int), .int .i64 0, .slice none 0 0]) := hide (by rw [h3, show (d : Int) = (f : Int) + 8 by omega]; exact ((N2.out.set_ 0 _).set_ 5 _).set_ 1 _)
    have T3 : Hid (Tw w w3 gn none) := hide (by rw [h3]; (repeat' (first | (with_reducible exact T0.out) | (with_reducible refine Tw.trans ?_ (Tw.set_ _ _ _ _ _)))))
    have P3 := hide (T3.out.blk P0.out hg (by simp))
    have HV : Hid (headP b f t = headF (cutB b (f + 4) (f + 8)) 2 f (t - f) d (t-f)) := hide (by rw [HV.out, hd])
    have hd1 : f + 8 ≤ d := by omega
    have hd2 : d ≤ f + 8 := by omega
    clear h3 hd p0 c0 z0 c1 z1 c2 z2 c3 z3 c4 z4 c5 z5 c6 z6 c7 z7 N2 P2 X2
    have c0 : w3.cell? ⟨gn, 0, none⟩ = some (.string ⟨(cutB b (f + 4) (f + 8)).toArray⟩) := N3.out.cell 0
    have c4 : w3.cell? ⟨gn, 4, none⟩ = some (.int .i64 (f : Int)) := N3.out.cell 4
    have c5 : w3.cell? ⟨gn, 5, none⟩ = some (.int .i64 (d : Int)) := N3.out.cell 5
    have c6 : w3.cell? ⟨gn, 6, none⟩ = some (.int .i64 0) := N3.out.cell 6
    have z6 : w3.frozen? ⟨gn, 6, none⟩ = false := N3.out.frozen 6
    have u2 : IntKind.u64.wrap ((d : Int) - (f : Int)) = (d : Int) - (f : Int) := by rw [IntKind.wrap_u64]; omega
    have u3 : IntKind.i64.wrap ((d : Int) - (f : Int)) = (d : Int) - (f : Int) := by rw [IntKind.wrap_i64]; omega
    cases kb with
    | false =>
      have HRES : Hid (headP b f t = none) := hide (by rw [HV.out, HHF.out, if_neg (fun h => Bool.noConfusion h.1)])
      clear HV
      go_quiet ((go_at_call 85; exact quiet_left (HIK.out _)))
      go_wp2_with fail
      refine gen_bod fun w9 h9 => ?_
      have T9 : Tw w w9 gn none := by rw [h9]; (repeat' (first | (with_reducible exact T3.out) | (with_reducible refine Tw.drewN ?_ _) | (with_reducible refine Tw.trans ?_ (Tw.set_ _ _ _ _ _))))
      clear h9
      go_ret
      exact HeadGives.no HRES.out T9
    | true =>
      by_cases hs1 : (t-f) < d - f
      · omega
      have g1 : decide (((t : Int) - (f : Int)) < (d : Int) - (f : Int)) = false := by simp; omega
      by_cases hs2 : t - f < (t-f)
      · omega
      have g2 : decide ((t : Int) - (f : Int) < ((t : Int) - (f : Int))) = false := by first | (simp; done) | (simp; omega)
      have g3 : decide ((t : Int) < (d : Int)) = false := by simp; omega
      have g4 : decide (t < d) = false := by simp; omega
      have v1 : IntKind.i64.wrap (((t : Int) - (f : Int))) = ((t : Int) - (f : Int)) := by rw [IntKind.wrap_i64]; omega
      have hs3 : ((t : Int) - (f : Int)) ≤ 1000000 := by omega
      obtain ⟨x, hx⟩ : ∃ x : Nat, x = f + ((t-f)) := ⟨_, rfl⟩
      have HRES : Hid (headP b f t = some (cutB b (f + 4) (f + 8), 2, d, x)) := hide (by rw [HV.out, HHF.out, if_pos ⟨rfl, by omega, by omega⟩, hx])
      have HX := hide hx
      clear hx hs1 hs2
      go_quiet ((go_at_call 85; exact quiet_left (HIK.out _)))
      go_wp2_with fail
      refine gen_bod fun w9 h9 => ?_
      have T9 : Tw w w9 gn none := by rw [h9]; (repeat' (first | (with_reducible exact T3.out) | (with_reducible refine Tw.drewN ?_ _) | (with_reducible refine Tw.trans ?_ (Tw.set_ _ _ _ _ _))))
      have N9 : Blk w9 gn 122 #[.string ⟨(cutB b (f + 4) (f + 8)).toArray⟩, .int .i64 2, .slice none 0 0, .slice none 0 0, .int .i64 (f : Int), .int .i64 (d : Int), .int .i64 (x : Int), .slice none 0 0] := by rw [h9, show (x : Int) = (f : Int) + (((t : Int) - (f : Int))) by have := HX.out; omega]; first | exact (N3.out.drewN _).set_ 6 _ | exact (N3.out.set_ 6 _).drewN _
      clear h9
      go_ret
      exact HeadGives.yes HRES.out T9 N9
  · have j1 : ((q : Int) == 1) = false := by simp; omega
    have j0 : ((q : Int) == 0) = false := by simp; omega
    have HV : Hid (headP b f t = headF (cutB b (f + 4) (f + 8)) 0 f (t - f) (f + 8) q) := hide (by rw [HV.out, if_neg hq1, if_neg hq0])
    clear hq1 hq0 hr2
    go_wp2_with fail
    refine gen_wpC fun w3 h3 => ?_
    obtain ⟨d, hd⟩ : ∃ d : Nat, d = f + 8 := ⟨_, rfl⟩
    have N3 : Hid (Blk w3 gn 122 #[.string ⟨(cutB b (f + 4) (f + 8)).toArray⟩, .int .i64 0, .slice none 0 0, .slice none 0 0, .int .i64 (f : Int), .int .i64 (d : Int), .int .i64 0, .slice none 0 0]) := hide (by rw [h3, show (d : Int) = (f : Int) + 8 by omega]; exact (N2.out.set_ 0 _).set_ 5 _)
    have T3 : Hid (Tw w w3 gn none) := hide (by rw [h3]; (repeat' (first | (with_reducible exact T0.out) | (with_reducible refine Tw.trans ?_ (Tw.set_ _ _ _ _ _)))))
    have P3 := hide (T3.out.blk P0.out hg (by simp))
    have HV : Hid (headP b f t = headF (cutB b (f + 4) (f + 8)) 0 f (t - f) d q) := hide (by rw [HV.out, hd])
    have hd1 : f + 8 ≤ d := by omega
    have hd2 : d ≤ f + 8 := by omega
    clear h3 hd p0 c0 z0 c1 z1 c2 z2 c3 z3 c4 z4 c5 z5 c6 z6 c7 z7 N2 P2 X2
    have c0 : w3.cell? ⟨gn, 0, none⟩ = some (.string ⟨(cutB b (f + 4) (f + 8)).toArray⟩) := N3.out.cell 0
    have c4 : w3.cell? ⟨gn, 4, none⟩ = some (.int .i64 (f : Int)) := N3.out.cell 4
    have c5 : w3.cell? ⟨gn, 5, none⟩ = some (.int .i64 (d : Int)) := N3.out.cell 5
    have c6 : w3.cell? ⟨gn, 6, none⟩ = some (.int .i64 0) := N3.out.cell 6
    have z6 : w3.frozen? ⟨gn, 6, none⟩ = false := N3.out.frozen 6
    have u2 : IntKind.u64.wrap ((d : Int) - (f : Int)) = (d : Int) - (f : Int) := by rw [IntKind.wrap_u64]; omega
    have u3 : IntKind.i64.wrap ((d : Int) - (f : Int)) = (d : Int) - (f : Int) := by rw [IntKind.wrap_i64]; omega
    cases kb with
    | false =>
      have HRES : Hid (headP b f t = none) := hide (by rw [HV.out, HHF.out, if_neg (fun h => Bool.noConfusion h.1)])
      clear HV
      go_quiet ((go_at_call 85; exact quiet_left (HIK.out _)))
      go_wp2_with fail
      refine gen_bod fun w9 h9 => ?_
      have T9 : Tw w w9 gn none := by rw [h9]; (repeat' (first | (with_reducible exact T3.out) | (with_reducible refine Tw.drewN ?_ _) | (with_reducible refine Tw.trans ?_ (Tw.set_ _ _ _ _ _))))
      clear h9
      go_ret
      exact HeadGives.no HRES.out T9
    | true =>
      by_cases hs1 : q < d - f
      · have g1 : decide ((q : Int) < (d : Int) - (f : Int)) = true := by simp; omega
        have HRES : Hid (headP b f t = none) := hide (by rw [HV.out, HHF.out, if_neg (fun h => by have := h.2.1; omega)])
        clear HV hs1
        go_quiet ((go_at_call 85; exact quiet_left (HIK.out _)))
        go_wp2_with fail
        refine gen_bod fun w9 h9 => ?_
        have T9 : Tw w w9 gn none := by rw [h9]; (repeat' (first | (with_reducible exact T3.out) | (with_reducible refine Tw.drewN ?_ _) | (with_reducible refine Tw.trans ?_ (Tw.set_ _ _ _ _ _))))
        clear h9
        go_ret
        exact HeadGives.no HRES.out T9
      have g1 : decide ((q : Int) < (d : Int) - (f : Int)) = false := by simp; omega
      by_cases hs2 : t - f < q
      · have g2 : decide ((t : Int) - (f : Int) < (q : Int)) = true := by simp; omega
        have HRES : Hid (headP b f t = none) := hide (by rw [HV.out, HHF.out, if_neg (fun h => by have := h.2.2; omega)])
        clear HV hs1 hs2
        go_quiet ((go_at_call 85; exact quiet_left (HIK.out _)))
        go_wp2_with fail
        refine gen_bod fun w9 h9 => ?_
        have T9 : Tw w w9 gn none := by rw [h9]; (repeat' (first | (with_reducible exact T3.out) | (with_reducible refine Tw.drewN ?_ _) | (with_reducible refine Tw.trans ?_ (Tw.set_ _ _ _ _ _))))
        clear h9
        go_ret
        exact HeadGives.no HRES.out T9
      have g2 : decide ((t : Int) - (f : Int) < (q : Int)) = false := by first | (simp; done) | (simp; omega)
      have v1 : IntKind.i64.wrap ((q : Int)) = (q : Int) := by rw [IntKind.wrap_i64]; omega
      have hs3 : (q : Int) ≤ 1000000 := by omega
      obtain ⟨x, hx⟩ : ∃ x : Nat, x = f + (q) := ⟨_, rfl⟩
      have HRES : Hid (headP b f t = some (cutB b (f + 4) (f + 8), 0, d, x)) := hide (by rw [HV.out, HHF.out, if_pos ⟨rfl, by omega, by omega⟩, hx])
      have HX := hide hx
      clear hx hs1 hs2
      go_quiet ((go_at_call 85; exact quiet_left (HIK.out _)))
      go_wp2_with fail
      refine gen_bod fun w9 h9 => ?_
      have T9 : Tw w w9 gn none := by rw [h9]; (repeat' (first | (with_reducible exact T3.out) | (with_reducible refine Tw.drewN ?_ _) | (with_reducible refine Tw.trans ?_ (Tw.set_ _ _ _ _ _))))
      have N9 : Blk w9 gn 122 #[.string ⟨(cutB b (f + 4) (f + 8)).toArray⟩, .int .i64 0, .slice none 0 0, .slice none 0 0, .int .i64 (f : Int), .int .i64 (d : Int), .int .i64 (x : Int), .slice none 0 0] := by rw [h9, show (x : Int) = (f : Int) + ((q : Int)) by have := HX.out; omega]; first | exact (N3.out.drewN _).set_ 6 _ | exact (N3.out.set_ 6 _).drewN _
      clear h9
      go_ret
      exact HeadGives.yes HRES.out T9 N9
end Go.Proofs.Ytkbmgakehlmcnaa
