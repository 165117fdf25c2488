/- Walks of Chain and Unchain. Conditions: none. -/
import Derived.Test.YtifmgngmkajahaaChainA
namespace Go.Proofs.Ytifmgngmkajahaa
open Go.RowKit Kc

/-- So many blocks, by a chain. -/
def chainL (k : List UInt8) : Nat → List UInt8 → List UInt8 → List UInt8
  | 0, _, l => l
  | n + 1, last, l => encB k (xor8 (l.take 8) last) ++ chainL k n (encB k (xor8 (l.take 8) last)) (l.drop 8)
def unchL (k : List UInt8) : Nat → List UInt8 → List UInt8 → List UInt8
  | 0, _, l => l
  | n + 1, last, l => xor8 (decB k (l.take 8)) last ++ unchL k n (l.take 8) (l.drop 8)
theorem length_chainL (k : List UInt8) : ∀ (n : Nat) (last l : List UInt8), 8 * n ≤ l.length → (chainL k n last l).length = l.length
  | 0, _, _, _ => rfl
  | n + 1, last, l, h => by
    rw [chainL, List.length_append, length_encB, length_chainL k n _ _ (by simp; omega)]
    simp; omega
theorem length_unchL (k : List UInt8) : ∀ (n : Nat) (last l : List UInt8), 8 * n ≤ l.length → (unchL k n last l).length = l.length
  | 0, _, _, _ => rfl
  | n + 1, last, l, h => by
    rw [unchL, List.length_append, length_xor8, length_unchL k n _ _ (by simp; omega)]
    simp; omega
theorem spl_take {α : Type} (xs : List α) (i : Nat) (x : List α) (h : i + x.length ≤ xs.length) : (spl xs i x).take (i + x.length) = xs.take i ++ x := by
  unfold spl
  rw [← List.append_assoc, List.take_append_of_le_length (by simp; omega), List.take_of_length_le (by simp; omega)]
theorem spl_drop {α : Type} (xs : List α) (i : Nat) (x : List α) (h : i + x.length ≤ xs.length) : (spl xs i x).drop (i + x.length) = xs.drop (i + x.length) := by
  unfold spl
  rw [← List.append_assoc, List.drop_append, List.drop_of_length_le (by simp; omega), List.nil_append]
  simp [show min i xs.length = i by omega]
theorem spl_mid {α : Type} (xs : List α) (i : Nat) (x : List α) (h : i + x.length ≤ xs.length) : ((spl xs i x).drop i).take x.length = x := by
  unfold spl
  rw [List.drop_append, List.drop_of_length_le (by simp; omega), List.nil_append]
  simp [show min i xs.length = i by omega]

set_option maxRecDepth 100000 in
set_option maxHeartbeats 4000000 in
theorem keyChain_ok {A1 A2 A3 : Option Addr} {c1 c2 n c3 : Nat} {l m b : List UInt8} {w : World} (h1 : At w 1 e8 A1 16 c1 l) (h2 : At w 1 e8 A2 8 c2 m) (h3 : At w 1 e8 A3 n c3 b) (hn : n ≤ 100000) :
    Calls Try.prog 32 #[.slice A1 16 c1, .slice A2 8 c2, .slice A3 n c3] w fun e w' => ∃ A c, e = .returned (.tuple #[.slice A n c, .int .i64 0]) ∧ At w' 1 e8 A n c (chainL l (n / 8) m b) ∧ Ext w w' := by
  obtain ⟨i0, hi0, hz0, hz1, hz2⟩ := info_parts Try.info5
  have hbl := hide h3.len
  have HK := hide h1; have HI := hide h2; have HB := hide h3
  clear h1 h2 h3
  go_enter Try.func32, Try.ntmps32
  go_wp2_with fail
  refine (modeFault_ok _ _ _ _ _ _ _ hn _).mono ?_
  rintro e w' ⟨rfl, rfl⟩
  go_wp2_with (at_builtin; refine wpList_append_at _ rfl (.const (.slice none 0 0)) (.tmp 19) 22 rfl w.heap.size 5 i0 _ 1 Try.underlying22 hi0 hz0 hz1 hz2 rfl (by omega) len_e8 one_e8 (.slice none 0 0) [] rfl (Own.nil _ _ _ _ _) A3 n c3 b rfl HB.out ?b1 ?b2 ?b3 ?_)
  case b1 => simp; unfold maxLen; omega
  case b2 => simp; omega
  case b3 => exact Nat.le_refl _
  intro v1 w1 o1 g1 _ _
  have X1 : Ext w w1 := (Own.nil w w.heap.size 5 1 e8).below (Ext.refl w) g1 (Nat.le_refl _)
  have o1' : Own w1 w.heap.size 5 1 e8 v1 b := o1
  obtain ⟨A, C, hv1, _⟩ := o1'.at_ len_e8
  rw [hbl.out] at hv1
  rw [hv1] at o1' ⊢
  have O1 := hide o1'; have E1 := hide X1
  clear o1 g1 X1 o1' hv1
  go_wp2_with fail
  go_loopw [10, 11] (fun rl ri wr => ∃ (i : Nat) (lA : Option Addr) (lc : Nat) (last xs : List UInt8), i ≤ n ∧ i % 8 = 0 ∧ ri = .int .i64 i ∧ rl = .slice lA 8 lc ∧ Hid (At wr 1 e8 lA 8 lc last) ∧
      Hid (Own wr w.heap.size 5 1 e8 (.slice A n C) xs) ∧ Hid (xs.length = n) ∧ Hid (xs.take i ++ chainL l ((n - i) / 8) last (xs.drop i) = chainL l (n / 8) m b) ∧ Hid (Ext w wr)) (fun _ ri _ => n - (intOf ri).toNat)
  case atStart => exact ⟨0, A2, c2, m, b, by omega, by omega, rfl, rfl, HI.out.ext E1.out, O1.out, hbl.out, hide (by simp), E1.out⟩
  case round =>
    obtain ⟨i, lA, lc, last, xs, hi, hi8, rfl, rfl, HL, HO, HN, HR, HX⟩ := hrel
    by_cases hlt : i + 8 ≤ n
    · have hat := HO.out.atS len_e8
      have hNC := hat.le
      have hCb := hat.boundc
      obtain ⟨g, hA, hg1, hg2⟩ := HO.out.where_ (by omega) HN.out
      subst hA
      have ic : (i : Int) ≤ (C : Int) := by omega
      have jc : ¬ C = i := by omega
      clear hat
      go_wp2_with fail
      refine (chain_own (HK.out.ext HX.out) HL.out HO.out (by omega)).mono ?_
      rintro e w4 ⟨rfl, o4, g4⟩
      obtain ⟨x, hx⟩ : ∃ x, x = encB l (xor8 ((xs.drop i).take 8) last) := ⟨_, rfl⟩
      have hxl : x.length = 8 := by rw [hx]; rfl
      rw [← hx] at o4
      have o4' := o4
      have hsl : (spl xs i x).length = n := by rw [length_spl _ _ _ (by rw [hxl, HN.out]; omega), HN.out]
      have L4 : Hid (At w4 1 e8 (some ⟨g, i, none⟩) 8 (C - i) x) := hide (by
        have q := ((o4'.atS len_e8).cutAt (k := i) (by omega) (by omega)).upto (k := 8) (by omega)
        rw [Nat.mul_one, Nat.zero_add] at q
        have e := spl_mid xs i x (by rw [hxl, HN.out]; omega)
        rw [hxl] at e
        rw [e] at q
        exact q)
      have X4 : Hid (Ext w w4) := hide (Below.grown HX.out g4 (by have := HX.out.size; omega) (fun k h => by have h' : g = k := Option.some.inj h; omega))
      have O4 := hide o4
      have N4 := hide hsl
      have R4 : Hid ((spl xs i x).take (i + 8) ++ chainL l ((n - (i + 8)) / 8) x ((spl xs i x).drop (i + 8)) = chainL l (n / 8) m b) := hide (by
        have t1 := spl_take xs i x (by rw [hxl, HN.out]; omega)
        have t2 := spl_drop xs i x (by rw [hxl, HN.out]; omega)
        rw [hxl] at t1 t2
        rw [t1, t2, ← HR.out]
        have hq : (n - i) / 8 = (n - (i + 8)) / 8 + 1 := by omega
        rw [hq]
        simp only [chainL]
        rw [← hx, List.append_assoc, List.drop_drop])
      clear o4 o4' hsl hx hxl g4
      go_wp2
      go_roundw
      case rel =>
        first
          | exact ⟨i + 8, some ⟨g, i, none⟩, C - i, x, spl xs i x, by omega, by omega, by go_num, rfl, L4.out, O4.out, N4.out, R4.out, X4.out⟩
          | ((repeat apply Exists.intro); exact ⟨⟨i + 8, some ⟨g, i, none⟩, C - i, x, spl xs i x, by omega, by omega, by go_num, rfl, L4.out, O4.out, N4.out, R4.out, X4.out⟩, rfl⟩)
      case measure => simp [intOf]; omega
    · have hfin : chainL l (n / 8) m b = xs := by
        have q := HR.out
        rw [show (n - i) / 8 = 0 by omega] at q
        simp only [chainL] at q
        rw [← q, List.take_append_drop]
      have HF := hide hfin
      clear hfin
      go_wp2
      go_ret2
      exact ⟨_, _, rfl, by rw [HF.out]; exact HO.out.atS len_e8, HX.out⟩
theorem keyChain_bad {A1 A2 A3 : Option Addr} {n1 n2 c1 c2 n c3 : Nat} {w : World} (h : modeF n1 n2 n ≠ 0) :
    Calls Try.prog 32 #[.slice A1 n1 c1, .slice A2 n2 c2, .slice A3 n c3] w fun e w' => e = .returned (.tuple #[.slice none 0 0, .int .i64 (modeF n1 n2 n)]) ∧ w = w' := by
  have hb : (modeF n1 n2 n != 0) = true := by rw [bne_iff_ne]; exact h
  have HC := hide (fun W : World => modeFault_bad A1 A2 A3 n1 n2 c1 c2 n c3 W)
  generalize modeF n1 n2 n = r at *
  clear h
  go_enter Try.func32, Try.ntmps32
  go_wp2_with fail
  refine (HC.out _).mono ?_
  rintro e w' ⟨rfl, rfl⟩
  go_wp2
  go_ret2
  exact ⟨rfl, rfl⟩

set_option maxRecDepth 100000 in
set_option maxHeartbeats 4000000 in
theorem keyUnchain_ok {A1 A2 A3 : Option Addr} {c1 c2 n c3 : Nat} {l m b : List UInt8} {w : World} (h1 : At w 1 e8 A1 16 c1 l) (h2 : At w 1 e8 A2 8 c2 m) (h3 : At w 1 e8 A3 n c3 b) (hn : n ≤ 100000) :
    Calls Try.prog 33 #[.slice A1 16 c1, .slice A2 8 c2, .slice A3 n c3] w fun e w' => ∃ A c, e = .returned (.tuple #[.slice A n c, .int .i64 0]) ∧ At w' 1 e8 A n c (unchL l (n / 8) m b) ∧ Ext w w' := by
  obtain ⟨i0, hi0, hz0, hz1, hz2⟩ := info_parts Try.info5
  have hbl := hide h3.len
  have HK := hide h1; have HI := hide h2; have HB := hide h3
  clear h1 h2 h3
  go_enter Try.func33, Try.ntmps33
  go_wp2_with fail
  refine (modeFault_ok _ _ _ _ _ _ _ hn _).mono ?_
  rintro e w' ⟨rfl, rfl⟩
  go_wp2_with (at_builtin; refine wpList_append_at _ rfl (.const (.slice none 0 0)) (.tmp 19) 22 rfl w.heap.size 5 i0 _ 1 Try.underlying22 hi0 hz0 hz1 hz2 rfl (by omega) len_e8 one_e8 (.slice none 0 0) [] rfl (Own.nil _ _ _ _ _) A3 n c3 b rfl HB.out ?b1 ?b2 ?b3 ?_)
  case b1 => simp; unfold maxLen; omega
  case b2 => simp; omega
  case b3 => exact Nat.le_refl _
  intro v1 w1 o1 g1 _ _
  have X1 : Ext w w1 := (Own.nil w w.heap.size 5 1 e8).below (Ext.refl w) g1 (Nat.le_refl _)
  have o1' : Own w1 w.heap.size 5 1 e8 v1 b := o1
  obtain ⟨A, C, hv1, _⟩ := o1'.at_ len_e8
  rw [hbl.out] at hv1
  rw [hv1] at o1' ⊢
  have O1 := hide o1'; have E1 := hide X1
  clear o1 g1 X1 o1' hv1
  go_wp2_with fail
  go_loopw [10, 11] (fun rl ri wr => ∃ (i : Nat) (lA : Option Addr) (lc : Nat) (last xs : List UInt8), i ≤ n ∧ i % 8 = 0 ∧ ri = .int .i64 i ∧ rl = .slice lA 8 lc ∧ Hid (At wr 1 e8 lA 8 lc last) ∧
      Hid (Own wr w.heap.size 5 1 e8 (.slice A n C) xs) ∧ Hid (xs.length = n) ∧ Hid (xs.take i ++ unchL l ((n - i) / 8) last (xs.drop i) = unchL l (n / 8) m b) ∧ Hid (Ext w wr)) (fun _ ri _ => n - (intOf ri).toNat)
  case atStart => exact ⟨0, A2, c2, m, b, by omega, by omega, rfl, rfl, HI.out.ext E1.out, O1.out, hbl.out, hide (by simp), E1.out⟩
  case round =>
    obtain ⟨i, lA, lc, last, xs, hi, hi8, rfl, rfl, HL, HO, HN, HR, HX⟩ := hrel
    by_cases hlt : i + 8 ≤ n
    · have hat := HO.out.atS len_e8
      have hNC := hat.le
      have hCb := hat.boundc
      obtain ⟨g, hA, hg1, hg2⟩ := HO.out.where_ (by omega) HN.out
      subst hA
      have ic : (i : Int) ≤ (C : Int) := by omega
      have jc : ¬ C = i := by omega
      clear hat
      go_wp2_with fail
      refine (unchain_own (HK.out.ext HX.out) HL.out HO.out (by omega)).mono ?_
      rintro e w4 ⟨A4, c4, rfl, a4, _, o4, g4⟩
      obtain ⟨x, hx⟩ : ∃ x, x = xor8 (decB l ((xs.drop i).take 8)) last := ⟨_, rfl⟩
      have hxl : x.length = 8 := by rw [hx]; rfl
      rw [← hx] at o4
      have o4' := o4
      have hsl : (spl xs i x).length = n := by rw [length_spl _ _ _ (by rw [hxl, HN.out]; omega), HN.out]
      have L4 := hide a4
      have X4 : Hid (Ext w w4) := hide (Below.grown HX.out g4 (by have := HX.out.size; omega) (fun k h => by have h' : g = k := Option.some.inj h; omega))
      have O4 := hide o4
      have N4 := hide hsl
      have R4 : Hid ((spl xs i x).take (i + 8) ++ unchL l ((n - (i + 8)) / 8) ((xs.drop i).take 8) ((spl xs i x).drop (i + 8)) = unchL l (n / 8) m b) := hide (by
        have t1 := spl_take xs i x (by rw [hxl, HN.out]; omega)
        have t2 := spl_drop xs i x (by rw [hxl, HN.out]; omega)
        rw [hxl] at t1 t2
        rw [t1, t2, ← HR.out]
        have hq : (n - i) / 8 = (n - (i + 8)) / 8 + 1 := by omega
        rw [hq]
        simp only [unchL]
        rw [← hx, List.append_assoc, List.drop_drop])
      clear o4 o4' hsl hx hxl g4 a4
      go_wp2
      go_roundw
      case rel =>
        first
          | exact ⟨i + 8, A4, c4, ((xs.drop i).take 8), spl xs i x, by omega, by omega, by go_num, rfl, L4.out, O4.out, N4.out, R4.out, X4.out⟩
          | ((repeat apply Exists.intro); exact ⟨⟨i + 8, A4, c4, ((xs.drop i).take 8), spl xs i x, by omega, by omega, by go_num, rfl, L4.out, O4.out, N4.out, R4.out, X4.out⟩, rfl⟩)
      case measure => simp [intOf]; omega
    · have hfin : unchL l (n / 8) m b = xs := by
        have q := HR.out
        rw [show (n - i) / 8 = 0 by omega] at q
        simp only [unchL] at q
        rw [← q, List.take_append_drop]
      have HF := hide hfin
      clear hfin
      go_wp2
      go_ret2
      exact ⟨_, _, rfl, by rw [HF.out]; exact HO.out.atS len_e8, HX.out⟩
theorem keyUnchain_bad {A1 A2 A3 : Option Addr} {n1 n2 c1 c2 n c3 : Nat} {w : World} (h : modeF n1 n2 n ≠ 0) :
    Calls Try.prog 33 #[.slice A1 n1 c1, .slice A2 n2 c2, .slice A3 n c3] w fun e w' => e = .returned (.tuple #[.slice none 0 0, .int .i64 (modeF n1 n2 n)]) ∧ w = w' := by
  have hb : (modeF n1 n2 n != 0) = true := by rw [bne_iff_ne]; exact h
  have HC := hide (fun W : World => modeFault_bad A1 A2 A3 n1 n2 c1 c2 n c3 W)
  generalize modeF n1 n2 n = r at *
  clear h
  go_enter Try.func33, Try.ntmps33
  go_wp2_with fail
  refine (HC.out _).mono ?_
  rintro e w' ⟨rfl, rfl⟩
  go_wp2
  go_ret2
  exact ⟨rfl, rfl⟩
end Go.Proofs.Ytifmgngmkajahaa
