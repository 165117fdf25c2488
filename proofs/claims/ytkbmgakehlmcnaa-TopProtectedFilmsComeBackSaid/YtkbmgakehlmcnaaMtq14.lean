/- Several texts in one: Walks of Protect and Open (both). Conditions: none; Walks of coded and Protect: what is made lies in a new block. Conditions: none; Walk of the program's Touched. Conditions: none; Plain facts of the cipher: decB takes encB back, and encB takes decB back. No program in sight. Conditions: lengths as stated; Plain law: what is made of parts is taken back; what is not touched stays. Conditions as stated. -/
import Derived.Test.YtkbmgakehlmcnaaMtq13
import Derived.Test.YtkbmgakehlmcnaaMtq05
namespace Go.Proofs.Ytkbmgakehlmcnaa
open Go.RowKit Kc
def codV (m c s : Int) (back : Bool) (k v b : List UInt8) (n1 n2 n : Nat) (l : List (Int × Int)) : List UInt8 :=
  if codF m c s n1 n2 n l ≠ 0 then [] else (codK m c.toNat s.toNat back k v b (partsP l (n : Int))).1
theorem codV_none {m c s : Int} {back : Bool} {k v b : List UInt8} {n1 n2 n : Nat} {l : List (Int × Int)} (h : codF m c s n1 n2 n l ≠ 0) : codV m c s back k v b n1 n2 n l = [] := by unfold codV; rw [if_pos h]
theorem keyCoded_any (back : Bool) {A1 A2 A3 A4 : Option Addr} {c1 c2 c3 c4 n1 n2 n n4 : Nat} {k v b : List UInt8} {l : List (Int × Int)} {m c s : Int} {w : World} (h1 : At w 1 e8 A1 n1 c1 k) (h2 : At w 1 e8 A2 n2 c2 v) (h3 : At w 1 e8 A3 n c3 b) (h4 : At w 2 e2 A4 n4 c4 l) :
    Calls Try.prog 18 #[schV m c s, .slice A1 n1 c1, .slice A2 n2 c2, .slice A3 n c3, .slice A4 n4 c4, .func (Fn.func (oneF back)) #[] #[]] w (Gives 1 e8 w (codV m c s back k v b n1 n2 n l) (codF m c s n1 n2 n l)) := by
  by_cases hF : codF m c s n1 n2 n l = 0
  · obtain ⟨hs0, hmo, hl0⟩ := codF_zero hF
    obtain ⟨rfl, rfl, hn⟩ := modeF_zero hmo
    obtain ⟨_, _, hc, hs, _⟩ := schF_zero hs0
    obtain ⟨cn, rfl⟩ : ∃ q : Nat, c = (q : Int) := ⟨c.toNat, by omega⟩
    obtain ⟨sn, rfl⟩ : ∃ q : Nat, s = (q : Int) := ⟨s.toNat, by omega⟩
    refine (keyCoded_ok back h1 h2 h3 h4 hF).mono fun e w' hh => ?_
    obtain ⟨A, c', he, ha, hx, _⟩ := hh
    refine ⟨A, n, c', by rw [hF]; exact he, ?_, hx⟩
    unfold codV
    rw [if_neg (by omega), Int.toNat_natCast, Int.toNat_natCast]
    exact ha
  · rw [codV_none hF]
    refine (keyCoded_bad back h4 hF).mono fun e w' hh => ?_
    obtain ⟨rfl, hx⟩ := hh
    exact gives_nil _ hx
set_option maxHeartbeats 1000000 in
theorem keyOpen_any {A1 A2 A3 A4 : Option Addr} {c1 c2 c3 c4 n1 n2 n n4 : Nat} {k v b : List UInt8} {l : List (Int × Int)} {m c s : Int} {w : World} (h1 : At w 1 e8 A1 n1 c1 k) (h2 : At w 1 e8 A2 n2 c2 v) (h3 : At w 1 e8 A3 n c3 b) (h4 : At w 2 e2 A4 n4 c4 l) :
    Calls Try.prog 10 #[schV m c s, .slice A1 n1 c1, .slice A2 n2 c2, .slice A3 n c3, .slice A4 n4 c4] w (Gives 1 e8 w (codV m c s true k v b n1 n2 n l) (codF m c s n1 n2 n l)) := by
  have HC := hide (fun (W : World) (hx : Ext w W) => keyCoded_any true (m := m) (c := c) (s := s) (h1.ext hx) (h2.ext hx) (h3.ext hx) (h4.ext hx))
  clear h1 h2 h3 h4
  generalize codV m c s true k v b n1 n2 n l = V at *
  generalize codF m c s n1 n2 n l = F at *
  go_enter Try.func10, Try.ntmps10
  go_wp2_with fail
  refine (HC.out _ (Ext.alloc w (.cells #[.int .i64 m, .int .i64 c, .int .i64 s] 27))).mono ?_
  rintro e w1 ⟨A, q, c', rfl, ha, hx⟩
  have HA := hide ha; have HX := hide hx
  clear ha hx
  go_wp2
  go_ret2
  exact gives_at rfl rfl HA.out (Ext.trans (Ext.alloc _ _) HX.out)
def GivesF (w : World) (l : List UInt8) (f : Int) (e : Ending) (w' : World) : Prop :=
  ∃ A k c, e = .returned (.tuple #[.slice A k c, .int .i64 f]) ∧ At w' 1 e8 A k c l ∧ Ext w w' ∧ ∀ x, A = some x → w.heap.size ≤ x.block
theorem keyCodedF_any (back : Bool) {A1 A2 A3 A4 : Option Addr} {c1 c2 c3 c4 n1 n2 n n4 : Nat} {k v b : List UInt8} {l : List (Int × Int)} {m c s : Int} {w : World} (h1 : At w 1 e8 A1 n1 c1 k) (h2 : At w 1 e8 A2 n2 c2 v) (h3 : At w 1 e8 A3 n c3 b) (h4 : At w 2 e2 A4 n4 c4 l) :
    Calls Try.prog 18 #[schV m c s, .slice A1 n1 c1, .slice A2 n2 c2, .slice A3 n c3, .slice A4 n4 c4, .func (Fn.func (oneF back)) #[] #[]] w (GivesF w (codV m c s back k v b n1 n2 n l) (codF m c s n1 n2 n l)) := by
  by_cases hF : codF m c s n1 n2 n l = 0
  · obtain ⟨hs0, hmo, hl0⟩ := codF_zero hF
    obtain ⟨rfl, rfl, hn⟩ := modeF_zero hmo
    obtain ⟨_, _, hc, hs, _⟩ := schF_zero hs0
    obtain ⟨cn, rfl⟩ : ∃ q : Nat, c = (q : Int) := ⟨c.toNat, by omega⟩
    obtain ⟨sn, rfl⟩ : ∃ q : Nat, s = (q : Int) := ⟨s.toNat, by omega⟩
    refine (keyCoded_ok back h1 h2 h3 h4 hF).mono fun e w' hh => ?_
    obtain ⟨A, c', he, ha, hx, hg⟩ := hh
    refine ⟨A, n, c', by rw [hF]; exact he, ?_, hx, hg⟩
    unfold codV
    rw [if_neg (by omega), Int.toNat_natCast, Int.toNat_natCast]
    exact ha
  · rw [codV_none hF]
    refine (keyCoded_bad back h4 hF).mono fun e w' hh => ?_
    obtain ⟨rfl, hx⟩ := hh
    exact ⟨none, 0, 0, rfl, At.nil _ _ _, hx, fun x h => by cases h⟩
set_option maxHeartbeats 1000000 in
theorem keyProtectF_any {A1 A2 A3 A4 : Option Addr} {c1 c2 c3 c4 n1 n2 n n4 : Nat} {k v b : List UInt8} {l : List (Int × Int)} {m c s : Int} {w : World} (h1 : At w 1 e8 A1 n1 c1 k) (h2 : At w 1 e8 A2 n2 c2 v) (h3 : At w 1 e8 A3 n c3 b) (h4 : At w 2 e2 A4 n4 c4 l) :
    Calls Try.prog 7 #[schV m c s, .slice A1 n1 c1, .slice A2 n2 c2, .slice A3 n c3, .slice A4 n4 c4] w (GivesF w (codV m c s false k v b n1 n2 n l) (codF m c s n1 n2 n l)) := by
  have HC := hide (fun (W : World) (hx : Ext w W) => keyCodedF_any false (m := m) (c := c) (s := s) (h1.ext hx) (h2.ext hx) (h3.ext hx) (h4.ext hx))
  clear h1 h2 h3 h4
  generalize codV m c s false k v b n1 n2 n l = V at *
  generalize codF m c s n1 n2 n l = F at *
  go_enter Try.func7, Try.ntmps7
  go_wp2_with fail
  refine (HC.out _ (Ext.alloc w (.cells #[.int .i64 m, .int .i64 c, .int .i64 s] 27))).mono ?_
  rintro e w1 ⟨A, q, c', rfl, ha, hx, hg⟩
  have HA := hide ha; have HX := hide hx
  have HG : Hid (∀ x, A = some x → w.heap.size ≤ x.block) := hide (fun x h => by have := hg x h; rw [World.size_alloc] at this; omega)
  clear ha hx hg
  go_wp2
  go_ret2
  exact ⟨_, _, _, rfl, HA.out, Ext.trans (Ext.alloc _ _) HX.out, HG.out⟩
end Go.Proofs.Ytkbmgakehlmcnaa
namespace Go.Proofs.Ytkbmgakehlmcnaa
open Go.RowKit
end Go.Proofs.Ytkbmgakehlmcnaa
namespace Go.Proofs.Ytkbmgakehlmcnaa
namespace Kc
def encR (d : UInt32) (k : List UInt8) (a b s : UInt32) : UInt32 × UInt32 := (a + addA k b s, b + addB k (a + addA k b s) (s + d))
def sumFK (d : UInt32) (s : UInt32) : Nat → UInt32
  | 0 => s
  | n + 1 => sumFK d (s + d) n
theorem sumF_succ (d : UInt32) : ∀ (n : Nat) (s : UInt32), sumFK d s (n + 1) = sumFK d s n + d
  | 0, _ => rfl
  | n + 1, s => by
    rw [sumFK, sumF_succ d n (s + d)]
    rfl
theorem enc_snoc (d : UInt32) (k : List UInt8) : ∀ (n : Nat) (a b s : UInt32), encN d k (n + 1) a b s = encR d k (encN d k n a b s).1 (encN d k n a b s).2 (sumFK d s n)
  | 0, a, b, s => rfl
  | n + 1, a, b, s => by
    rw [encN_succ, enc_snoc d k n]
    rw [encN_succ d k n]
    rfl
theorem add_sub32 (a b : UInt32) : a + b - b = a := by
  apply UInt32.toNat_inj.1
  rw [UInt32.toNat_sub, UInt32.toNat_add]
  have := a.toNat_lt; have := b.toNat_lt
  omega
theorem dec_enc (d : UInt32) (k : List UInt8) : ∀ (n : Nat) (a b s : UInt32), decN d k n (encN d k n a b s).1 (encN d k n a b s).2 (sumFK d s n) = (a, b)
  | 0, _, _, _ => rfl
  | n + 1, a, b, s => by
    rw [enc_snoc, sumF_succ, decN_succ]
    generalize hx : encN d k n a b s = r
    obtain ⟨x, y⟩ := r
    generalize hS : sumFK d s n = S
    simp only [encR]
    rw [add_sub32, add_sub32, add_sub32]
    have := dec_enc d k n a b s
    rw [hx, hS] at this
    exact this
theorem sumF_zero (d : UInt32) : ∀ n, sumFK d 0 n = sumN d n
  | 0 => rfl
  | n + 1 => by rw [sumF_succ, sumN, sumF_zero d n]
theorem toNat_word4 (b0 b1 b2 b3 : UInt8) : (word4 b0 b1 b2 b3).toNat = b0.toNat * 16777216 + b1.toNat * 65536 + b2.toNat * 256 + b3.toNat := by
  have h0 := b0.toNat_lt; have h1 := b1.toNat_lt; have h2 := b2.toNat_lt; have h3 := b3.toNat_lt
  have e0 : (b0.toUInt32 <<< 24).toNat = b0.toNat * 2 ^ 24 := by
    rw [UInt32.toNat_shiftLeft, UInt8.toNat_toUInt32]
    simp [Nat.shiftLeft_eq]; omega
  have e1 : (b1.toUInt32 <<< 16).toNat = b1.toNat * 2 ^ 16 := by
    rw [UInt32.toNat_shiftLeft, UInt8.toNat_toUInt32]
    simp [Nat.shiftLeft_eq]; omega
  have e2 : (b2.toUInt32 <<< 8).toNat = b2.toNat * 2 ^ 8 := by
    rw [UInt32.toNat_shiftLeft, UInt8.toNat_toUInt32]
    simp [Nat.shiftLeft_eq]; omega
  unfold word4
  rw [UInt32.toNat_or, UInt32.toNat_or, UInt32.toNat_or, e0, e1, e2, UInt8.toNat_toUInt32]
  have j1 : b0.toNat * 2 ^ 24 ||| b1.toNat * 2 ^ 16 = b0.toNat * 2 ^ 24 + b1.toNat * 2 ^ 16 := by
    rw [Nat.mul_comm b0.toNat, ← Nat.two_pow_add_eq_or_of_lt (by omega)]
  have j2 : (b0.toNat * 2 ^ 24 + b1.toNat * 2 ^ 16) ||| b2.toNat * 2 ^ 8 = b0.toNat * 2 ^ 24 + b1.toNat * 2 ^ 16 + b2.toNat * 2 ^ 8 := by
    rw [show b0.toNat * 2 ^ 24 + b1.toNat * 2 ^ 16 = 2 ^ 16 * (b0.toNat * 2 ^ 8 + b1.toNat) by omega, ← Nat.two_pow_add_eq_or_of_lt (by omega)]
  have j3 : (b0.toNat * 2 ^ 24 + b1.toNat * 2 ^ 16 + b2.toNat * 2 ^ 8) ||| b3.toNat = b0.toNat * 2 ^ 24 + b1.toNat * 2 ^ 16 + b2.toNat * 2 ^ 8 + b3.toNat := by
    rw [show b0.toNat * 2 ^ 24 + b1.toNat * 2 ^ 16 + b2.toNat * 2 ^ 8 = 2 ^ 8 * (b0.toNat * 2 ^ 16 + b1.toNat * 2 ^ 8 + b2.toNat) by omega, ← Nat.two_pow_add_eq_or_of_lt (by omega)]
  rw [j1, j2, j3]
theorem shr_u8 (x : UInt32) : (x >>> 24).toUInt8.toNat = x.toNat / 16777216 % 256 ∧ (x >>> 16).toUInt8.toNat = x.toNat / 65536 % 256 ∧ (x >>> 8).toUInt8.toNat = x.toNat / 256 % 256 ∧ x.toUInt8.toNat = x.toNat % 256 := by
  refine ⟨?_, ?_, ?_, ?_⟩
  all_goals rw [UInt32.toNat_toUInt8]
  all_goals try rw [UInt32.toNat_shiftRight]
  all_goals simp [Nat.shiftRight_eq_div_pow]
theorem bytes4_word4 (b0 b1 b2 b3 : UInt8) : bytes4 (word4 b0 b1 b2 b3) = [b0, b1, b2, b3] := by
  have h0 := b0.toNat_lt; have h1 := b1.toNat_lt; have h2 := b2.toNat_lt; have h3 := b3.toNat_lt
  have hw := toNat_word4 b0 b1 b2 b3
  obtain ⟨e0, e1, e2, e3⟩ := shr_u8 (word4 b0 b1 b2 b3)
  unfold bytes4
  congr 1
  · apply UInt8.toNat_inj.1; rw [e0, hw]; omega
  congr 1
  · apply UInt8.toNat_inj.1; rw [e1, hw]; omega
  congr 1
  · apply UInt8.toNat_inj.1; rw [e2, hw]; omega
  congr 1
  apply UInt8.toNat_inj.1; rw [e3, hw]; omega
theorem word_bytes4 (a : UInt32) (r : List UInt8) : wordL (bytes4 a ++ r) = a := by
  obtain ⟨e0, e1, e2, e3⟩ := shr_u8 a
  have ha := a.toNat_lt
  show word4 _ _ _ _ = a
  apply UInt32.toNat_inj.1
  rw [toNat_word4]
  show (a >>> 24).toUInt8.toNat * 16777216 + (a >>> 16).toUInt8.toNat * 65536 + (a >>> 8).toUInt8.toNat * 256 + a.toUInt8.toNat = _
  rw [e0, e1, e2, e3]
  omega
theorem words_bytes8 (a b : UInt32) : wordL (bytes8 a b) = a ∧ wordL ((bytes8 a b).drop 4) = b := by
  refine ⟨word_bytes4 a _, ?_⟩
  have : (bytes8 a b).drop 4 = bytes4 b ++ [] := by rw [List.append_nil]; rfl
  rw [this]
  exact word_bytes4 b []
theorem bytes8_words (l : List UInt8) (h : l.length = 8) : bytes8 (wordL l) (wordL (l.drop 4)) = l := by
  match l, h with
  | [b0, b1, b2, b3, b4, b5, b6, b7], _ =>
    show bytes4 (word4 b0 b1 b2 b3) ++ bytes4 (word4 b4 b5 b6 b7) = _
    rw [bytes4_word4, bytes4_word4]
    rfl
theorem decB_encB (k b : List UInt8) (h : b.length = 8) : decB k (encB k b) = b := by
  have h1 := dec_enc delta k 16 (wordL b) (wordL (b.drop 4)) 0
  rw [sumF_zero] at h1
  unfold encB decB
  simp only []
  rw [(words_bytes8 _ _).1, (words_bytes8 _ _).2, h1]
  exact bytes8_words b h
end Kc
end Go.Proofs.Ytkbmgakehlmcnaa
namespace Go.Proofs.Ytkbmgakehlmcnaa
open Go.RowKit Kc
def codD (m : Int) (c s : Nat) (back : Bool) (k v : List UInt8) : List (Int × Int) → Nat → Nat → List UInt8 → List UInt8
  | [], _, lo, b => b.drop lo
  | p :: r, t, lo, b => (b.drop lo).take (p.1.toNat - lo) ++ (codG m c s back k v t ((b.drop p.1.toNat).take (p.2.toNat - p.1.toNat)) ++ codD m c s back k v r (t + (p.2.toNat - p.1.toNat)) p.2.toNat b)
theorem codK_codD (m : Int) (c s : Nat) (back : Bool) (k v b : List UInt8) : ∀ (P : List (Int × Int)) (out : List UInt8) (t : Nat) (lo : Nat), chainS (lo : Int) P → (∀ p ∈ P, p.2 ≤ (b.length : Int)) → out.length = b.length → lo ≤ b.length → out.drop lo = b.drop lo →
    (P.foldl (codS m c s back k v b) (out, t)).1 = out.take lo ++ codD m c s back k v P t lo b
  | [], out, t, lo, _, _, _, _, h => by
    rw [codD, ← h, List.take_append_drop]; rfl
  | p :: r, out, t, lo, ⟨c1, c2, c3⟩, hm, hl, hlo, h => by
    have hp := hm p (by simp)
    have hX : (codG m c s back k v t ((b.drop p.1.toNat).take (p.2.toNat - p.1.toNat))).length = p.2.toNat - p.1.toNat := by
      rw [length_codG, List.length_take, List.length_drop]; omega
    rw [List.foldl_cons, codD]
    have hd : out.drop p.1.toNat = b.drop p.1.toNat := by
      have e : p.1.toNat = lo + (p.1.toNat - lo) := by omega
      rw [e, ← List.drop_drop, h, List.drop_drop]
    have hcs : codS m c s back k v b (out, t) p = (spl out p.1.toNat (codG m c s back k v t ((b.drop p.1.toNat).take (p.2.toNat - p.1.toNat))), t + (p.2.toNat - p.1.toNat)) := rfl
    rw [hcs]
    generalize codG m c s back k v t ((b.drop p.1.toNat).take (p.2.toNat - p.1.toNat)) = X at *
    have t1 := spl_take out p.1.toNat X (by omega)
    have t2 := spl_drop out p.1.toNat X (by omega)
    rw [hX, show p.1.toNat + (p.2.toNat - p.1.toNat) = p.2.toNat by omega] at t1 t2
    have hp2 : ((p.2.toNat : Nat) : Int) = p.2 := by omega
    rw [codK_codD m c s back k v b r (spl out p.1.toNat X) _ p.2.toNat (by rw [hp2]; exact c3) (fun q hq => hm q (List.mem_cons_of_mem _ hq)) (by rw [length_spl _ _ _ (by omega), hl]) (by omega) (by
      rw [t2]
      have e : p.2.toNat = p.1.toNat + (p.2.toNat - p.1.toNat) := by omega
      rw [e, ← List.drop_drop, hd, List.drop_drop]), t1]
    have e2 : out.take p.1.toNat = out.take lo ++ (b.drop lo).take (p.1.toNat - lo) := by
      rw [← h, ← List.take_add, show lo + (p.1.toNat - lo) = p.1.toNat by omega]
    rw [e2, List.append_assoc, List.append_assoc]
theorem xrL_back (x s : List UInt8) : xrL (xrL x s) s = x := by
  apply List.ext_getElem
  · rw [length_xrL, length_xrL]
  · intro i h1 h2
    have hx : i < x.length := h2
    simp only [xrL, List.getElem_map, List.getElem_range, List.getD_eq_getElem?_getD, List.getElem?_map, List.getElem?_range hx, Option.map_some, Option.getD_some, List.getElem?_eq_getElem hx]
    rw [UInt8.xor_assoc, UInt8.xor_self, UInt8.xor_zero]
theorem xor8_twice (a b : List UInt8) (h : a.length = 8) : xor8 (xor8 a b) b = a := by
  match a, h with
  | [a0, a1, a2, a3, a4, a5, a6, a7], _ =>
    simp [xor8, List.range_succ, UInt8.xor_assoc]
theorem gG_back (k : List UInt8) (c e : Nat) : ∀ (n j : Nat) (last l : List UInt8), 8 * n ≤ l.length → gG (stU k) c e n j last (gG (stC k) c e n j last l) = l
  | 0, _, _, _, _ => rfl
  | n + 1, j, last, l, h => by
    rw [gG, gG]
    by_cases hs : selB c e j = true
    · rw [if_pos hs, if_pos hs]
      have hx : (stC k (l.take 8) last).1.length = 8 := rfl
      rw [List.take_append_of_le_length (by omega), List.take_of_length_le (by omega), List.drop_append, List.drop_of_length_le (by omega), hx, Nat.sub_self, List.drop_zero, List.nil_append]
      have e1 : (stU k (stC k (l.take 8) last).1 last).1 = l.take 8 := by
        unfold stU stC
        simp only
        rw [decB_encB k _ (length_xor8 _ _), xor8_twice _ _ (by simp; omega)]
      have e2 : (stU k (stC k (l.take 8) last).1 last).2 = (stC k (l.take 8) last).2 := rfl
      rw [e1, e2, gG_back k c e n _ _ _ (by simp; omega), List.take_append_drop]
    · rw [if_neg hs, if_neg hs]
      have hx : (l.take 8).length = 8 := by rw [List.length_take]; omega
      rw [List.take_append_of_le_length (by omega), List.take_of_length_le (by omega), List.drop_append, List.drop_of_length_le (by omega), hx, Nat.sub_self, List.drop_zero, List.nil_append, gG_back k c e n _ _ _ (by simp; omega), List.take_append_drop]
theorem codG_back (m : Int) (c s : Nat) (k v : List UInt8) (t : Nat) (x : List UInt8) : codG m c s true k v t (codG m c s false k v t x) = x := by
  have hl := length_codG m c s false k v t x
  unfold codG at hl ⊢
  by_cases hm : m = 1
  · rw [if_pos hm, if_pos hm, length_xrL, xrL_back]
  · rw [if_neg hm, if_neg hm]
    rw [if_neg hm] at hl
    rw [hl]
    exact gG_back k c (c + s) _ _ _ _ (by omega)
theorem codD_back (m : Int) (c s : Nat) (k v b : List UInt8) : ∀ (P : List (Int × Int)) (t lo : Nat) (X : List UInt8), chainS (lo : Int) P → (∀ p ∈ P, p.2 ≤ (b.length : Int)) → lo ≤ b.length →
    X.drop lo = codD m c s false k v P t lo b → codD m c s true k v P t lo X = b.drop lo
  | [], t, lo, X, _, _, _, h => h
  | p :: r, t, lo, X, ⟨c1, c2, c3⟩, hm, hlo, h => by
    have hp := hm p (by simp)
    rw [codD] at h ⊢
    have hA : ((b.drop lo).take (p.1.toNat - lo)).length = p.1.toNat - lo := by rw [List.length_take, List.length_drop]; omega
    have hB : ((b.drop p.1.toNat).take (p.2.toNat - p.1.toNat)).length = p.2.toNat - p.1.toNat := by rw [List.length_take, List.length_drop]; omega
    have hC := length_codG m c s false k v t ((b.drop p.1.toNat).take (p.2.toNat - p.1.toNat))
    have hback := codG_back m c s k v t ((b.drop p.1.toNat).take (p.2.toNat - p.1.toNat))
    rw [hB] at hC
    generalize codG m c s false k v t ((b.drop p.1.toNat).take (p.2.toNat - p.1.toNat)) = G at *
    have x1 : (X.drop lo).take (p.1.toNat - lo) = (b.drop lo).take (p.1.toNat - lo) := by
      rw [h, List.take_append_of_le_length (by omega), List.take_of_length_le (by omega)]
    have x2 : X.drop p.1.toNat = G ++ codD m c s false k v r (t + (p.2.toNat - p.1.toNat)) p.2.toNat b := by
      have e : p.1.toNat = lo + (p.1.toNat - lo) := by omega
      rw [e, ← List.drop_drop, h, List.drop_append, List.drop_of_length_le (by omega), hA, Nat.sub_self, List.drop_zero, List.nil_append, ← e]
    have x3 : (X.drop p.1.toNat).take (p.2.toNat - p.1.toNat) = G := by
      rw [x2, List.take_append_of_le_length (by omega), List.take_of_length_le (by omega)]
    have x4 : X.drop p.2.toNat = codD m c s false k v r (t + (p.2.toNat - p.1.toNat)) p.2.toNat b := by
      have e : p.2.toNat = p.1.toNat + (p.2.toNat - p.1.toNat) := by omega
      conv => lhs; rw [e]
      rw [← List.drop_drop, x2, List.drop_append, List.drop_of_length_le (by omega), hC, Nat.sub_self, List.drop_zero, List.nil_append]
    have hp2 : ((p.2.toNat : Nat) : Int) = p.2 := by omega
    rw [x1, x3, hback, codD_back m c s k v b r _ p.2.toNat X (by rw [hp2]; exact c3) (fun q hq => hm q (List.mem_cons_of_mem _ hq)) (by omega) x4]
    have e1 : b.drop p.2.toNat = (b.drop p.1.toNat).drop (p.2.toNat - p.1.toNat) := by rw [List.drop_drop]; congr 1; omega
    rw [e1, List.take_append_drop]
    have e2 : b.drop p.1.toNat = (b.drop lo).drop (p.1.toNat - lo) := by rw [List.drop_drop]; congr 1; omega
    rw [e2, List.take_append_drop]
theorem codK_back (m : Int) (c s : Nat) (k v b : List UInt8) {P : List (Int × Int)} (hP : chainS 0 P) (hm : ∀ p ∈ P, p.2 ≤ (b.length : Int)) :
    (codK m c s true k v (codK m c s false k v b P).1 P).1 = b := by
  have h1 := codK_codD m c s false k v b P b 0 0 hP hm rfl (Nat.zero_le _) rfl
  have hl := codK_len (m := m) (c := c) (s := s) (back := false) (k := k) (v := v) (b := b) hP hm
  have h0 : (codK m c s false k v b P).1 = codD m c s false k v P 0 0 b := by
    unfold codK; rw [h1]; simp
  have h2 := codK_codD m c s true k v (codK m c s false k v b P).1 P (codK m c s false k v b P).1 0 0 hP (by rw [hl]; exact hm) rfl (Nat.zero_le _) rfl
  unfold codK at h2 ⊢
  rw [h2]
  simp only [List.take_zero, List.nil_append]
  have h3 := codD_back m c s k v b P 0 0 (codK m c s false k v b P).1 hP hm (Nat.zero_le _) (by rw [h0, List.drop_zero])
  unfold codK at h3
  rw [h3, List.drop_zero]
end Go.Proofs.Ytkbmgakehlmcnaa
