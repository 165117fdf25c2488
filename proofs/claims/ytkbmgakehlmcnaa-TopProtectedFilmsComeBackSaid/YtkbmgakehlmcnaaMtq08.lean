/- Several texts in one: Walk of key.Digest. Condition: the bytes' number is within the reach; A law for copy into owned bytes; walks of modeFault, chain, unchain. Conditions: lengths as stated. -/
import Derived.Test.YtkbmgakehlmcnaaMtq07
namespace Go.Proofs.Ytkbmgakehlmcnaa
open Go.RowKit Kc
def lenV : Value → Nat | .slice _ n _ => n | _ => 0
theorem At.one8 (w : World) (x : UInt8) : At (w.alloc (.cells #[B8 x] 5)) 1 e8 (some ⟨w.heap.size, 0, none⟩) 1 1 [x] :=
  ⟨rfl, Nat.le_refl _, by unfold maxLen; omega, fun h => (by cases h), fun k y hy => ⟨_, _, rfl, fun j u hu => by
    match k, hy with
    | 0, hy =>
      simp at hy; subst hy
      match j, hu with
      | 0, hu =>
        simp at hu; subst hu
        exact (Blk.new w _ _).cell 0
      | j + 1, hu => simp at hu
    | k + 1, hy => simp at hy⟩⟩
def digT (l : List UInt8) (k : Nat) : List UInt8 := l ++ [128] ++ List.replicate k 0
theorem digT_zero (l : List UInt8) : digT l 0 = l ++ [128] := by simp [digT]
theorem digT_succ (l : List UInt8) (k : Nat) : digT l k ++ [0] = digT l (k + 1) := by
  unfold digT
  rw [List.append_assoc (l ++ [128]), ← List.replicate_succ']
theorem digT_len (l : List UInt8) (k : Nat) : (digT l k).length = l.length + 1 + k := by simp [digT]; omega
def hiW (n : Nat) : UInt32 := UInt32.ofNat (n / 4294967296)
def loW (n : Nat) : UInt32 := UInt32.ofNat n
theorem u64hi (n : Nat) (h : n < 18446744073709551616) : ((n : Int) / 4294967296) = ((hiW n).toNat : Int) := by
  unfold hiW
  rw [UInt32.toNat_ofNat']; omega
theorem u64lo (n : Nat) : ((n : Int) % 4294967296) = ((loW n).toNat : Int) := by
  unfold loW
  rw [UInt32.toNat_ofNat']; omega
theorem beL8 (n : Nat) : bytes8 (hiW n) (loW n) = beL 8 n := by
  have r : List.range 8 = [0, 1, 2, 3, 4, 5, 6, 7] := rfl
  have h1 : (hiW n).toNat = n / 4294967296 % 4294967296 := by unfold hiW; rw [UInt32.toNat_ofNat']
  have h2 : (loW n).toNat = n % 4294967296 := by unfold loW; rw [UInt32.toNat_ofNat']
  have sh : ∀ (x : UInt32) (k : UInt32) (m d : Nat), (x >>> k).toNat = x.toNat / m → x.toNat / m % 256 = d % 256 → (x >>> k).toUInt8 = UInt8.ofNat d := by
    intro x k m d hm hd
    apply UInt8.toNat_inj.1
    rw [UInt32.toNat_toUInt8, hm, UInt8.toNat_ofNat']
    exact hd
  have lo : ∀ (x : UInt32) (d : Nat), x.toNat % 256 = d % 256 → x.toUInt8 = UInt8.ofNat d := by
    intro x d hd
    apply UInt8.toNat_inj.1
    rw [UInt32.toNat_toUInt8, UInt8.toNat_ofNat']
    exact hd
  have q24 : ∀ x : UInt32, (x >>> 24).toNat = x.toNat / 16777216 := fun x => by rw [UInt32.toNat_shiftRight]; simp [Nat.shiftRight_eq_div_pow]
  have q16 : ∀ x : UInt32, (x >>> 16).toNat = x.toNat / 65536 := fun x => by rw [UInt32.toNat_shiftRight]; simp [Nat.shiftRight_eq_div_pow]
  have q8 : ∀ x : UInt32, (x >>> 8).toNat = x.toNat / 256 := fun x => by rw [UInt32.toNat_shiftRight]; simp [Nat.shiftRight_eq_div_pow]
  unfold beL bytes8 bytes4
  rw [r]
  simp only [List.map_cons, List.map_nil, List.cons_append, List.nil_append, Nat.reduceSub, Nat.reducePow]
  have cg : ∀ a b, a % 256 = b % 256 → UInt8.ofNat a = UInt8.ofNat b := fun a b h => by
    apply UInt8.toNat_inj.1
    rw [UInt8.toNat_ofNat', UInt8.toNat_ofNat']
    exact h
  rw [sh (hiW n) 24 _ _ (q24 _) (by rw [h1]), sh (hiW n) 16 _ _ (q16 _) (by rw [h1]), sh (hiW n) 8 _ _ (q8 _) (by rw [h1]), lo (hiW n) _ (by rw [h1]),
    sh (loW n) 24 _ _ (q24 _) (by rw [h2]), sh (loW n) 16 _ _ (q16 _) (by rw [h2]), sh (loW n) 8 _ _ (q8 _) (by rw [h2]), lo (loW n) _ (by rw [h2])]
  rw [cg (n / 4294967296 % 4294967296 / 16777216) (n / 72057594037927936) (by omega), cg (n / 4294967296 % 4294967296 / 65536) (n / 281474976710656) (by omega), cg (n / 4294967296 % 4294967296 / 256) (n / 1099511627776) (by omega), cg (n / 4294967296 % 4294967296) (n / 4294967296) (by omega),
    cg (n % 4294967296 / 16777216) (n / 16777216) (by omega), cg (n % 4294967296 / 65536) (n / 65536) (by omega), cg (n % 4294967296 / 256) (n / 256) (by omega), cg (n % 4294967296) (n / 1) (by omega)]
def stK (k : Nat) : List UInt8 := (List.range 16).map fun i => if i < k then UInt8.ofNat i else 0
theorem stK_set (k : Nat) : ((stK k).map B8).toArray.setIfInBounds k (B8 (UInt8.ofNat k)) = ((stK (k + 1)).map B8).toArray := by
  rw [List.setIfInBounds_toArray]
  congr 1
  apply List.ext_getElem
  · simp [stK]
  · intro i h1 h2
    simp only [stK, List.getElem_set, List.getElem_map, List.getElem_range]
    by_cases e : k = i
    · subst e; simp
    · rw [if_neg e]
      by_cases e2 : i < k
      · rw [if_pos e2, if_pos (by omega)]
      · rw [if_neg e2, if_neg (by omega)]
theorem stK_get (k : Nat) (hk : k < 16) : ((stK k).map B8).toArray[k]? = some (.int .u8 0) := by
  simp [stK, List.getElem?_range hk]
theorem ofNat8 (i : Nat) (h : i < 256) : B8 (UInt8.ofNat i) = .int .u8 (i : Int) := by
  have e : (UInt8.ofNat i).toNat = i := by rw [UInt8.toNat_ofNat']; omega
  exact int_val (by rw [e])
theorem stK_all : stK 16 = st0 := by decide
def invK (p : List UInt8) (k : Nat) : List UInt8 := (p.take k).map (255 - ·) ++ p.drop k
theorem length_invK (p : List UInt8) (k : Nat) : (invK p k).length = p.length := by simp [invK]; omega
theorem invK_zero (p : List UInt8) : invK p 0 = p := by simp [invK]
theorem invK_all (p : List UInt8) (k : Nat) (h : p.length = k) : invK p k = p.map (255 - ·) := by subst h; simp [invK]
theorem invK_get (p : List UInt8) (k : Nat) : (invK p k).getD k 0 = p.getD k 0 := by
  unfold invK
  rcases Nat.lt_or_ge k p.length with h | h
  · simp [List.getElem?_append, Nat.min_eq_left (Nat.le_of_lt h)]
  · simp [List.drop_eq_nil_of_le h, Nat.min_eq_right h, h]
theorem invK_set (p : List UInt8) (k : Nat) (h : k < p.length) : (invK p k).set k (255 - p.getD k 0) = invK p (k + 1) := by
  apply List.ext_getElem?
  intro i
  rw [List.getElem?_set]
  unfold invK
  simp only [List.getElem?_append, List.length_map, List.length_take, List.length_append, List.length_drop, List.getElem?_map, List.getElem?_take, List.getElem?_drop, Nat.min_eq_left (Nat.le_of_lt h), Nat.min_eq_left (Nat.succ_le_of_lt h)]
  rcases Nat.lt_trichotomy i k with h1 | h1 | h1
  · rw [if_neg (by omega), if_pos h1, if_pos h1, if_pos (by omega), if_pos (by omega)]
  · subst h1
    simp [List.getElem?_eq_getElem h]
    omega
  · rw [if_neg (by omega), if_neg (by omega), if_neg (by omega)]
    congr 1; omega
set_option maxRecDepth 10000 in
theorem not255 : ∀ n : Nat, n < 256 → 255 ^^^ n = 255 - n := by decide
theorem not8 (x : UInt8) : Value.int .u8 (bits .xor .u8 (if IntKind.u8.signed = true then -1 else IntKind.u8.max) (x.toNat : Int)) = B8 (255 - x) := by
  have h : (bits .xor .u8 (((255 : UInt8).toNat : Int)) (x.toNat : Int)) = ((255 - x : UInt8).toNat : Int) := by
    rw [u8_xor']
    have : (255 : UInt8) ^^^ x = 255 - x := by
      apply UInt8.toNat_inj.1
      rw [UInt8.toNat_xor]
      have hx := u8lt x
      rw [UInt8.toNat_sub_of_le _ _ (by show x.toNat ≤ 255; omega)]
      exact not255 _ hx
    rw [this]
  exact int_val h
theorem own_not {w : World} {base : Nat} {t : TypeId} {g n c : Nat} {xs : List UInt8} (h : Own w base t 1 e8 (.slice (some ⟨g, 0, none⟩) n c) xs) (k : Nat) (x : UInt8) :
    Own (w.setCell ⟨g, k, none⟩ (Value.int .u8 (bits .xor .u8 (if IntKind.u8.signed = true then -1 else IntKind.u8.max) (x.toNat : Int)))) base t 1 e8 (.slice (some ⟨g, 0, none⟩) n c) (xs.set k (255 - x)) := by
  rw [not8 x]
  exact h.set1 len_e8 k _ _ rfl
theorem gen_then {K : Act → World → Prop} {Q : Exit → Act → World → Prop} {e : Exit} {a : Act} {w : World} (h : ∀ W, W = w → Exit.then K Q e a W) : Exit.then K Q e a w := h w rfl
theorem spl_two (st a b : List UInt8) (hs : st.length = 16) (ha : a.length = 8) (hb : b.length = 8) : spl (spl st 0 a) 8 b = a ++ b := by
  unfold spl
  rw [List.take_zero, List.nil_append, Nat.zero_add, ha, hb]
  rw [List.take_append_of_le_length (by omega), List.take_of_length_le (by omega), List.drop_append, List.drop_of_length_le (by omega), List.nil_append, List.drop_drop, List.drop_of_length_le (by omega), List.append_nil]
theorem own_blk {w : World} {base g : Nat} {t : TypeId} {l : List UInt8} (h : Blk w g t (l.map B8).toArray) (hb : base ≤ g) (hl : l.length = 16) : Own w base t 1 e8 (.slice (some ⟨g, 0, none⟩) 16 16) l :=
  ⟨by rw [flat8]; simp, .inr ⟨g, 16, _, by rw [hl], hb, h, by omega, by unfold maxLen; omega, by simp [hl], by rw [flat8, Nat.mul_one]; simp [List.take_of_length_le]⟩⟩
theorem size8 : (Try.prog.info? 5).map (·.size) = some 1 := by kernel_rfl
theorem make16 : ∀ w : World, (Instr.makeSlice 28 (.int .i64 16) (.int .i64 16)).run Try.prog w = .ok (.slice (some ⟨w.heap.size, 0, none⟩) 16 16) (w.alloc (.cells #[.int .u8 0, .int .u8 0, .int .u8 0, .int .u8 0, .int .u8 0, .int .u8 0, .int .u8 0, .int .u8 0, .int .u8 0, .int .u8 0, .int .u8 0, .int .u8 0, .int .u8 0, .int .u8 0, .int .u8 0, .int .u8 0] 5)) := fun _ => by kernel_rfl
set_option maxRecDepth 100000 in
set_option maxHeartbeats 4000000 in
theorem digest_any {A : Option Addr} {n c : Nat} {l : List UInt8} {w : World} (h : At w 1 e8 A n c l) (hb : n ≤ 140737488351232) :
    Calls Try.prog 15 #[.slice A n c] w fun e w' => ∃ g, e = .returned (.slice (some ⟨g, 0, none⟩) 16 16) ∧ Own w' w.heap.size 5 1 e8 (.slice (some ⟨g, 0, none⟩) 16 16) (digest l) ∧ Ext w w' := by
  obtain ⟨i0, hi0, hz0, hz1, hz2⟩ := info_parts Try.infoK5
  have hl := h.len
  have hL := hide hl
  have H := hide h
  clear h
  go_enter Try.func15, Try.ntmps15
  go_wp2_with (at_builtin; refine wpList_append_at _ rfl (.const (.slice none 0 0)) (.tmp 12) 28 rfl w.heap.size 5 i0 _ 1 Try.underlying28 hi0 hz0 hz1 hz2 rfl (by omega) len_e8 one_e8 (.slice none 0 0) [] rfl (Own.nil _ _ _ _ _) A n c l rfl H.out ?b1 ?b2 ?b3 ?_)
  case b1 => simp; unfold maxLen; omega
  case b2 => simp; omega
  case b3 => exact Nat.le_refl _
  intro v1 w1 o1 g1 _ _
  have X1 : Ext w w1 := (Own.nil w w.heap.size 5 1 e8).below (Ext.refl w) g1 (Nat.le_refl _)
  have O1 := hide (Own.ext o1 (Ext.alloc w1 (.cells #[B8 128] 5)))
  have HX1 := hide X1
  have z1 := X1.size
  have A1 := hide (At.one8 w1 128)
  clear o1 g1 X1
  go_wp2_with (at_builtin; refine wpList_append_at _ rfl (.tmp 13) (.tmp 14) 28 rfl w.heap.size 5 i0 _ 1 Try.underlying28 hi0 hz0 hz1 hz2 rfl (by omega) len_e8 one_e8 v1 l rfl O1.out (some ⟨w1.heap.size, 0, none⟩) 1 1 [128] rfl A1.out ?b4 ?b5 ?b6 ?_)
  case b4 => rw [hL.out]; unfold maxLen; omega
  case b5 => rw [hL.out]; omega
  case b6 => simp; omega
  intro v2 w2 o2 g2 _ _
  have E1 : Ext w (w1.alloc (.cells #[B8 128] 5)) := by have h1 := HX1.out; exact (by repeat' (first | (with_reducible first | exact Below.refl _ _ | assumption | refine below_drewN ?_ _ | refine Below.drew ?_ | refine ext_alloc ?_ _ | refine Below.setCell ?_ ?_ _) | go_size))
  have X2 : Ext w w2 := O1.out.below E1 g2 (Nat.le_refl _)
  obtain ⟨A2, c2, hv2, _⟩ := o2.at_ len_e8
  rw [List.length_append, hL.out] at hv2
  have hv2' : v2 = .slice A2 (n + 1) c2 := hv2
  rw [hv2'] at o2 ⊢
  have O2 : Hid (Own w2 w.heap.size 5 1 e8 (.slice A2 (n + 1) c2) (digT l 0)) := hide (by rw [digT_zero]; exact o2)
  have HX2 := hide X2
  clear O1 HX1 A1 o2 g2 E1 X2 z1 hv2 hv2'
  go_wp2_with fail
  have hp := Nat.mod_lt (23 - n % 16) (show 0 < 16 by omega)
  have hpz : padZ n ≤ 15 := by unfold padZ; omega
  go_loopw [3] (fun rt wr => ∃ (A' : Option Addr) (c' k : Nat), rt = .slice A' (n + 1 + k) c' ∧ k ≤ padZ n ∧ Hid (Own wr w.heap.size 5 1 e8 (.slice A' (n + 1 + k) c') (digT l k)) ∧ Hid (Ext w wr)) (fun rt _ => n + 1 + padZ n - lenV rt)
  case atStart => exact ⟨A2, c2, 0, rfl, Nat.zero_le _, O2, HX2⟩
  case round =>
    obtain ⟨A', c', k, rfl, hk, HO, HX⟩ := hrel
    have hbd := (HO.out.atS len_e8).bound
    have hhp := hide hpz
    by_cases hlt : k < padZ n
    · have hm : (n + 1 + k) % 16 ≠ 8 := by unfold padZ at hlt; omega
      have hm2 : ((((n : Int) + 1 + (k : Int)) % 16) != 8) = true := by rw [bne_iff_ne]; omega
      have HM := hide hm
      clear hm hp
      have O3 := hide (HO.out.ext (Ext.alloc wr (.cells #[B8 0] 5)))
      have E3 : Ext w (wr.alloc (.cells #[B8 0] 5)) := by have h1 := HX.out; exact (by repeat' (first | (with_reducible first | exact Below.refl _ _ | assumption | refine below_drewN ?_ _ | refine Below.drew ?_ | refine ext_alloc ?_ _ | refine Below.setCell ?_ ?_ _) | go_size))
      have z3 := E3.size
      have HE3 := hide E3
      have A3 := hide (At.one8 wr 0)
      have hlen : Hid ((digT l k).length = n + 1 + k) := hide (by rw [digT_len, hL.out])
      clear E3
      go_wp2_with (at_builtin; refine wpList_append_at _ rfl (.tmp 20) (.tmp 21) 28 rfl w.heap.size 5 i0 _ 1 Try.underlying28 hi0 hz0 hz1 hz2 rfl (by omega) len_e8 one_e8 (.slice A' (n + 1 + k) c') (digT l k) rfl O3.out (some ⟨wr.heap.size, 0, none⟩) 1 1 [0] rfl A3.out ?b7 ?b8 ?b9 ?_)
      case b7 => rw [hlen.out]; unfold maxLen; omega
      case b8 => rw [hlen.out]; omega
      case b9 => exact z3
      intro v4 w4 o4 g4 _ _
      have X4 : Ext w w4 := O3.out.below HE3.out g4 (Nat.le_refl _)
      obtain ⟨A4, c4, hv4, _⟩ := o4.at_ len_e8
      rw [List.length_append, hlen.out] at hv4
      have hv4' : v4 = .slice A4 (n + 1 + (k + 1)) c4 := hv4
      rw [hv4'] at o4 ⊢
      rw [digT_succ] at o4
      have O4 := hide o4
      have HX4 := hide X4
      clear o4 X4 g4 hv4 hv4' z3
      go_wp2
      go_roundw
      case rel => exact ⟨A4, c4, k + 1, rfl, by omega, O4.out, HX4.out⟩
      case measure => simp [lenV]; omega
    · have hkz : k = padZ n := by omega
      have hm2 : ((((n : Int) + 1 + (k : Int)) % 16) != 8) = false := by rw [bne_eq_false_iff_eq, hkz]; unfold padZ; omega
      have HK := hide hkz
      clear hkz hp
      have hn1 := u64hi n (by omega)
      have hn2 := u64lo n
      go_wp2_with fail
      refine (wordBytes_any _ _ _).mono ?_
      rintro e w5 ⟨rfl, e5⟩
      have hb8 : bytes8 (hiW n) (loW n) = beL 8 n := beL8 n
      generalize hz : bytes8 (hiW n) (loW n) = z at *
      have hz8 : z.length = 8 := by rw [hb8, length_beL]
      have O5 := hide ((HO.out.ext e5).ext (Ext.alloc w5 (.cells #[B8 (z.getD 0 0), B8 (z.getD 1 0), B8 (z.getD 2 0), B8 (z.getD 3 0), B8 (z.getD 4 0), B8 (z.getD 5 0), B8 (z.getD 6 0), B8 (z.getD 7 0)] 90)))
      have A5 := hide (At.new8 w5 z hz8 90)
      have x5 := Ext.trans HX.out e5
      have E5 := hide (ext_alloc x5 (.cells #[B8 (z.getD 0 0), B8 (z.getD 1 0), B8 (z.getD 2 0), B8 (z.getD 3 0), B8 (z.getD 4 0), B8 (z.getD 5 0), B8 (z.getD 6 0), B8 (z.getD 7 0)] 90))
      have z5 := E5.out.size
      have HZ := hide hb8
      have HZ8 := hide hz8
      have hlen : Hid ((digT l k).length = n + 1 + k) := hide (by rw [digT_len, hL.out])
      clear e5 HO HX hb8 hz x5 hz8 hm2 hn1 hn2
      go_wp2_with (at_builtin; refine wpList_append_at _ rfl (.tmp 32) (.tmp 33) 28 rfl w.heap.size 5 i0 _ 1 Try.underlying28 hi0 hz0 hz1 hz2 rfl (by omega) len_e8 one_e8 (.slice A' (n + 1 + k) c') (digT l k) rfl O5.out (some ⟨w5.heap.size, 0, none⟩) 8 8 z rfl A5.out ?c1 ?c2 ?c3 ?_)
      case c1 => rw [hlen.out]; unfold maxLen; omega
      case c2 => rw [hlen.out]; omega
      case c3 => exact z5
      intro v6 w6 o6 g6 _ _
      have X6 : Ext w w6 := O5.out.below E5.out g6 (Nat.le_refl _)
      obtain ⟨A6, c6, hv6, _⟩ := o6.at_ len_e8
      rw [List.length_append, hlen.out, HZ8.out] at hv6
      rw [hv6] at o6 ⊢
      have hT : digT l k ++ z = digText l := by
        rw [HK.out, HZ.out]; unfold digT digText; rw [hL.out]
      rw [hT] at o6
      have O6 := hide o6
      have HX6 := hide X6
      clear o6 X6 g6 hv6 hT z5 O5 E5 A5 HZ HZ8
      have hmk := make16
      go_wp2_with fail
      clear hmk
      obtain ⟨gs, hgs⟩ : ∃ gs, gs = w6.heap.size := ⟨_, rfl⟩
      have S0 : Blk (w6.alloc (.cells #[.int .u8 0, .int .u8 0, .int .u8 0, .int .u8 0, .int .u8 0, .int .u8 0, .int .u8 0, .int .u8 0, .int .u8 0, .int .u8 0, .int .u8 0, .int .u8 0, .int .u8 0, .int .u8 0, .int .u8 0, .int .u8 0] 5)) gs 5 ((stK 0).map B8).toArray := by rw [hgs]; exact Blk.new w6 5 ((stK 0).map B8).toArray
      have O7 := hide (O6.out.ext (Ext.alloc w6 (.cells #[.int .u8 0, .int .u8 0, .int .u8 0, .int .u8 0, .int .u8 0, .int .u8 0, .int .u8 0, .int .u8 0, .int .u8 0, .int .u8 0, .int .u8 0, .int .u8 0, .int .u8 0, .int .u8 0, .int .u8 0, .int .u8 0] 5)))
      have X7 := hide (ext_alloc HX6.out (.cells #[.int .u8 0, .int .u8 0, .int .u8 0, .int .u8 0, .int .u8 0, .int .u8 0, .int .u8 0, .int .u8 0, .int .u8 0, .int .u8 0, .int .u8 0, .int .u8 0, .int .u8 0, .int .u8 0, .int .u8 0, .int .u8 0] 5))
      have hgw : w.heap.size ≤ gs := by rw [hgs]; exact HX6.out.size
      have hne : ∀ a, A6 = some a → a.block < gs := fun a ha => by
        have := (O6.out.lt a.block (by rw [ha]; rfl)).2
        rw [hgs]; exact this
      have HNE := hide hne
      have HS0 := hide S0
      rw [← hgs]
      have HGS := hide hgs
      clear hgs hne S0 O6 HX6
      go_loopw [38] (fun ri wr => ∃ i : Nat, i ≤ 16 ∧ ri = .int .i64 i ∧ Hid (Blk wr gs 5 ((stK i).map B8).toArray) ∧ Hid (At wr 1 e8 A6 (n + 1 + k + 8) c6 (digText l)) ∧ Hid (Ext w wr)) (fun ri _ => 16 - (intOf ri).toNat)
      case atStart => exact ⟨0, by omega, rfl, HS0, O7.out.atS len_e8, X7⟩
      case round =>
        obtain ⟨i, hi, rfl, HS, HT, HX⟩ := hrel
        clear HS0 O7 X7
        by_cases hli : i < 16
        · have q1 : wr.cell? ⟨gs, i, none⟩ = some (.int .u8 0) := by rw [HS.out.cell]; exact stK_get i hli
          have q2 := HS.out.frozen i
          have HG := hide hgw
          go_wp2
          go_roundw
          case rel =>
            refine ⟨i + 1, by omega, by go_num, ?_, ?_, Below.setCell HX.out HG.out _⟩
            · have h1 := HS.out.set_ i (B8 (UInt8.ofNat i))
              rw [stK_set, ofNat8 i (by omega)] at h1
              exact h1
            · exact HT.out.grown (grown_setK wr gs i _) (fun a ha => by have := HNE.out a ha; simp; omega)
          case measure => simp [intOf]; omega
        · have hi16 : i = 16 := by omega
          subst hi16
          rw [stK_all] at HS
          have hlen : (digText l).length = n + 1 + k + 8 := HT.out.len
          have hmod := digText_mod l
          rw [hlen] at hmod
          have HD : Hid (digN ((n + 1 + k + 8) / 16) (digText l) st0 = digest l) := hide (by unfold digest; rw [hlen])
          have HG := hide hgw
          generalize hm : n + 1 + k + 8 = m at *
          clear hm hlen
          have HB := hide hb
          go_wp2_with fail
          go_loopw [3] (fun rt wr => ∃ (A' : Option Addr) (m c' : Nat) (t st : List UInt8), rt = .slice A' m c' ∧ m % 16 = 0 ∧ Hid (st.length = 16) ∧ Hid (At wr 1 e8 A' m c' t) ∧ Hid (Blk wr gs 5 (st.map B8).toArray) ∧
              Hid (digN (m / 16) t st = digest l) ∧ Hid (Ext w wr) ∧ Hid (∀ a, A' = some a → a.block < gs)) (fun rt _ => lenV rt)
          case atStart => exact ⟨A6, m, c6, digText l, st0, rfl, hmod, hide rfl, HT, HS, HD, HX, HNE⟩
          case round =>
            obtain ⟨A', m, c', t, st, rfl, hm, HL, HT, HS, HD, HX, HNE⟩ := hrel
            have hbd := HT.out.bound
            have hle := HT.out.le
            by_cases hm0 : 0 < m
            · have hm16 : 16 ≤ m := by omega
              have HT16 := hide (HT.out.upto (k := 16) hm16)
              have i16 : (16 : Int) ≤ (c' : Int) := by omega
              go_wp2_with (at_builtin; refine wpList_append_at _ rfl (.const (.slice none 0 0)) (.tmp 53) 28 rfl wr.heap.size 5 i0 _ 1 Try.underlying28 hi0 hz0 hz1 hz2 rfl (by omega) len_e8 one_e8 (.slice none 0 0) [] rfl (Own.nil _ _ _ _ _) A' 16 c' (t.take 16) rfl HT16.out ?d1 ?d2 ?d3 ?_)
              case d1 => simp; unfold maxLen; omega
              case d2 => simp
              case d3 => exact Nat.le_refl _
              intro v8 w8 o8 g8 _ _
              have X8 : Ext wr w8 := (Own.nil wr wr.heap.size 5 1 e8).below (Ext.refl wr) g8 (Nat.le_refl _)
              obtain ⟨p, hp⟩ : ∃ p, p = t.take 16 := ⟨_, rfl⟩
              have hpl : p.length = 16 := by rw [hp, List.length_take, HT.out.len]; omega
              have o8' : Own w8 wr.heap.size 5 1 e8 v8 p := by rw [hp]; exact o8
              obtain ⟨A8, c8, hv8, _⟩ := o8'.at_ len_e8
              rw [hpl] at hv8
              rw [hv8] at o8' ⊢
              obtain ⟨bp, hA8, hbp, hbp'⟩ := o8'.where_ (by omega) hpl
              rw [hA8] at o8' ⊢
              clear hA8
              have P8 := hide (o8'.atS len_e8)
              have O8 := hide o8'
              have HS8 := hide (HS.out.ext X8)
              have S8 := hide (At.blk HS8.out (by rw [HL.out]; unfold maxLen; omega))
              have HP := hide hp
              have HPL := hide hpl
              have HX8 := hide X8
              have z8 := X8.size
              clear o8 g8 hp hpl o8' hv8 X8
              rw [HL.out] at S8
              have S8a := hide (S8.out.upto (k := 8) (by omega))
              have S8b := hide (S8.out.cutAt (k := 8) (by omega) (by omega))
              go_wp2_with fail
              refine (encrypt_any P8.out S8a.out (by omega) (by omega)).mono ?_
              rintro e w9 ⟨rfl, e9⟩
              have E9 := hide e9
              clear e9
              have hl9 : (encB p (st.take 8)).length = 8 := rfl
              generalize hx9 : encB p (st.take 8) = x9 at *
              have HX9 := hide hx9
              have HL9 := hide hl9
              clear hx9 hl9
              go_wp2_with fail
              refine gen_wp fun W9 hW9 => ?_
              have A9 : Hid (At W9 1 e8 (some ⟨w9.heap.size, 0, none⟩) 8 8 x9) := hide (by rw [hW9]; exact At.new8 w9 x9 HL9.out 90)
              have B9 : Hid (Blk W9 w9.heap.size 90 #[B8 (x9.getD 0 0), B8 (x9.getD 1 0), B8 (x9.getD 2 0), B8 (x9.getD 3 0), B8 (x9.getD 4 0), B8 (x9.getD 5 0), B8 (x9.getD 6 0), B8 (x9.getD 7 0)]) := hide (by rw [hW9]; exact Blk.new w9 _ _)
              have EW : Hid (Ext w8 W9) := hide (by have h1 := E9.out; rw [hW9]; exact ext_alloc h1 _)
              have z9 : w8.heap.size ≤ w9.heap.size := E9.out.size
              have S9a := hide (S8a.out.ext EW.out)
              have S9b := hide (S8b.out.ext EW.out)
              clear hW9
              go_region_held3 (fun _ => True) (first | trivial) (first
                | ((go_at_call 33; with_reducible refine (xor_any (A9.out.ext (by repeat' (first | (with_reducible first | exact Below.refl _ _ | assumption | refine below_drewN ?_ _ | refine Below.drew ?_ | refine ext_alloc ?_ _ | refine Below.setCell ?_ ?_ _) | go_size))) (S9a.out.ext (by repeat' (first | (with_reducible first | exact Below.refl _ _ | assumption | refine below_drewN ?_ _ | refine Below.drew ?_ | refine ext_alloc ?_ _ | refine Below.setCell ?_ ?_ _) | go_size))) (by omega) (by omega)).mono ?_); rintro e w10 ⟨rfl, e10⟩; have x10 := hide (Ext.trans (show Ext W9 _ from (by repeat' (first | (with_reducible first | exact Below.refl _ _ | assumption | refine below_drewN ?_ _ | refine Below.drew ?_ | refine ext_alloc ?_ _ | refine Below.setCell ?_ ?_ _) | go_size))) e10); have B10 := hide (B9.out.ext x10.out); clear e10; have fz := B10.out.frozen; have q0 := B10.out.cell 0; have q1 := B10.out.cell 1; have q2 := B10.out.cell 2; have q3 := B10.out.cell 3; have q4 := B10.out.cell 4; have q5 := B10.out.cell 5; have q6 := B10.out.cell 6; have q7 := B10.out.cell 7; obtain ⟨x1, hx1⟩ : ∃ x1, x1 = xor8 x9 (st.take 8) := ⟨_, rfl⟩; rw [← hx1]; have HX1 := hide hx1; clear hx1))
              go_wp2_with fail
              refine gen_wp fun W17 h17 => ?_
              have B17 : Hid (Blk W17 w9.heap.size 90 #[B8 (x1.getD 0 0), B8 (x1.getD 1 0), B8 (x1.getD 2 0), B8 (x1.getD 3 0), B8 (x1.getD 4 0), B8 (x1.getD 5 0), B8 (x1.getD 6 0), B8 (x1.getD 7 0)]) := hide (by rw [h17]; exact B10.out.set8 _ _ _ _ _ _ _ _)
              have E17 : Ext w8 W17 := by have h1 := Ext.trans EW.out x10.out; rw [h17]; exact (by repeat' (first | (with_reducible first | exact Below.refl _ _ | assumption | refine below_drewN ?_ _ | refine Below.drew ?_ | refine ext_alloc ?_ _ | refine Below.setCell ?_ ?_ _) | go_size))
              clear h17 fz q0 q1 q2 q3 q4 q5 q6 q7 B10 x10 A9 B9 EW S9a S9b
              have X17 := hide (Ext.trans HX8.out E17)
              have O17 := hide (O8.out.ext E17)
              have z17 := E17.size
              clear E17
              go_loopw [65] (fun ri wr' => ∃ i : Nat, i ≤ 16 ∧ ri = .int .i64 i ∧ Hid (Own wr' wr.heap.size 5 1 e8 (.slice (some ⟨bp, 0, none⟩) 16 c8) (invK p i)) ∧ Hid (Blk wr' w9.heap.size 90 #[B8 (x1.getD 0 0), B8 (x1.getD 1 0), B8 (x1.getD 2 0), B8 (x1.getD 3 0), B8 (x1.getD 4 0), B8 (x1.getD 5 0), B8 (x1.getD 6 0), B8 (x1.getD 7 0)]) ∧ Hid (Ext wr wr')) (fun ri _ => 16 - (intOf ri).toNat)
              case atStart => exact ⟨0, by omega, rfl, by rw [invK_zero]; exact O17, B17, X17⟩
              case round =>
                obtain ⟨i, hi, rfl, HO, HB', HX'⟩ := hrel
                clear O17 B17 X17
                have hpl' : (invK p i).length = 16 := by rw [length_invK]; exact HPL.out
                by_cases hli : i < 16
                · have r1 := (HO.out.atS len_e8).byteK (k := i) hli
                  rw [invK_get, Nat.zero_add] at r1
                  have r2 := HO.out.frozen1 i
                  have i16' : (i : Int) < 16 := by omega
                  go_wp2
                  go_roundw
                  case rel => exact ⟨i + 1, by omega, by go_num, by rw [← invK_set p i (by rw [HPL.out]; exact hli)]; exact own_not HO.out i _, HB'.out.far (by simp; omega) _, Below.setCell HX'.out hbp _⟩
                  case measure => simp [intOf]; omega
                · have hi16 : i = 16 := by omega
                  subst hi16
                  rw [invK_all p 16 HPL.out] at HO
                  obtain ⟨pn, hpn⟩ : ∃ pn, pn = p.map (255 - ·) := ⟨_, rfl⟩
                  rw [← hpn] at HO
                  have HPN := hide hpn
                  have PN := hide (HO.out.atS len_e8)
                  have HSw := hide (HS.out.ext HX'.out)
                  have Sw := hide (At.blk HSw.out (by rw [HL.out]; unfold maxLen; omega))
                  rw [HL.out] at Sw
                  have Swb := hide (Sw.out.cutAt (k := 8) (by omega) (by omega))
                  have HB1 := HB'
                  clear hpn hpl' HS8 S8 S8a S8b P8 O8
                  go_wp2_with fail
                  refine (encrypt_any PN.out Swb.out (by omega) (by omega)).mono ?_
                  rintro e w11 ⟨rfl, e11⟩
                  have E11 := hide e11
                  clear e11
                  have hl11 : (encB pn (st.drop 8)).length = 8 := rfl
                  generalize hx11 : encB pn (st.drop 8) = x11 at *
                  have HX11 := hide hx11
                  have HL11 := hide hl11
                  clear hx11 hl11
                  go_wp2_with fail
                  refine gen_wp fun W11 h11 => ?_
                  have A11 : Hid (At W11 1 e8 (some ⟨w11.heap.size, 0, none⟩) 8 8 x11) := hide (by rw [h11]; exact At.new8 w11 x11 HL11.out 90)
                  have B11 : Hid (Blk W11 w11.heap.size 90 #[B8 (x11.getD 0 0), B8 (x11.getD 1 0), B8 (x11.getD 2 0), B8 (x11.getD 3 0), B8 (x11.getD 4 0), B8 (x11.getD 5 0), B8 (x11.getD 6 0), B8 (x11.getD 7 0)]) := hide (by rw [h11]; exact Blk.new w11 _ _)
                  have EW : Hid (Ext wr W11) := hide (by have h1 := E11.out; rw [h11]; exact ext_alloc h1 _)
                  have z11 : wr.heap.size ≤ w11.heap.size := E11.out.size
                  have S11b := hide (Swb.out.ext EW.out)
                  rw [show 0 + 8 * 1 = 8 from rfl, show 16 - 8 = 8 from rfl] at S11b
                  have MARK : True := trivial
                  clear h11
                  go_region_held3 (fun _ => True) (first | trivial) (first
                    | ((go_at_call 33; with_reducible refine (xor_any (A11.out.ext (by repeat' (first | (with_reducible first | exact Below.refl _ _ | assumption | refine below_drewN ?_ _ | refine Below.drew ?_ | refine ext_alloc ?_ _ | refine Below.setCell ?_ ?_ _) | go_size))) (S11b.out.ext (by repeat' (first | (with_reducible first | exact Below.refl _ _ | assumption | refine below_drewN ?_ _ | refine Below.drew ?_ | refine ext_alloc ?_ _ | refine Below.setCell ?_ ?_ _) | go_size))) (by omega) (by omega)).mono ?_); rintro e w12 ⟨rfl, e12⟩; have x12 := hide (Ext.trans (show Ext W11 _ from (by repeat' (first | (with_reducible first | exact Below.refl _ _ | assumption | refine below_drewN ?_ _ | refine Below.drew ?_ | refine ext_alloc ?_ _ | refine Below.setCell ?_ ?_ _) | go_size))) e12); have B12 := hide (B11.out.ext x12.out); clear e12; have fz := B12.out.frozen; have q0 := B12.out.cell 0; have q1 := B12.out.cell 1; have q2 := B12.out.cell 2; have q3 := B12.out.cell 3; have q4 := B12.out.cell 4; have q5 := B12.out.cell 5; have q6 := B12.out.cell 6; have q7 := B12.out.cell 7; obtain ⟨x2, hx2⟩ : ∃ x2, x2 = xor8 x11 (st.drop 8) := ⟨_, rfl⟩; rw [← hx2]; have HX2 := hide hx2; clear hx2))
                  refine gen_then fun W13 h13 => ?_
                  have B13 : Hid (Blk W13 w11.heap.size 90 #[B8 (x2.getD 0 0), B8 (x2.getD 1 0), B8 (x2.getD 2 0), B8 (x2.getD 3 0), B8 (x2.getD 4 0), B8 (x2.getD 5 0), B8 (x2.getD 6 0), B8 (x2.getD 7 0)]) := hide (by rw [h13]; exact B12.out.set8 _ _ _ _ _ _ _ _)
                  have E13 : Hid (Ext wr W13) := hide (by have h1 := Ext.trans EW.out x12.out; rw [h13]; exact (by repeat' (first | (with_reducible first | exact Below.refl _ _ | assumption | refine below_drewN ?_ _ | refine Below.drew ?_ | refine ext_alloc ?_ _ | refine Below.setCell ?_ ?_ _) | go_size)))
                  clear h13 fz q0 q1 q2 q3 q4 q5 q6 q7 B12 x12 A11 B11 EW S11b
                  have hx1l : x1.length = 8 := by rw [HX1.out]; rfl
                  have hx2l : x2.length = 8 := by rw [HX2.out]; rfl
                  have B1c := HB1.out.ext E13.out
                  rw [arr8 x1 hx1l] at B1c
                  have HB1c := hide B1c
                  have A1c := At.blk B1c (by rw [hx1l]; unfold maxLen; omega)
                  rw [hx1l] at A1c
                  have S1c := hide (HSw.out.ext E13.out)
                  have HA1c := hide A1c
                  clear B1c A1c
                  go_wp2_with (refine wpList_copy_bytes (o := ⟨some 87, _, _, _, _, _⟩) rfl (.tmp 85) (.tmp 86) 28 28 rfl 5 Try.underlying28 size8 gs 0 16 16 (some ⟨w9.heap.size, 0, none⟩) 8 8 rfl rfl st 5 S1c.out x1 HA1c.out (by omega) (by omega) (by rw [HL.out]; omega) ?_; intro W14 B14 G14; have HB14 := hide B14; have HG14 := hide G14; clear B14 G14)
                  have hgs : gs < wr.heap.size := HSw.out.lt
                  have hne11 : some w11.heap.size ≠ some gs := by intro h; injection h with h; omega
                  have B2c := B13.out.grown HG14.out hne11
                  rw [arr8 x2 hx2l] at B2c
                  have A2c := At.blk B2c (by rw [hx2l]; unfold maxLen; omega)
                  rw [hx2l] at A2c
                  have HA2 := hide A2c
                  have hsl : (spl st 0 x1).length = 16 := by rw [length_spl _ _ _ (by rw [hx1l, HL.out]; omega), HL.out]
                  have HSL := hide hsl
                  have HX1L := hide hx1l
                  have HX2L := hide hx2l
                  clear B2c A2c hsl hx1l hx2l S1c HA1c HB1c B13
                  go_wp2_with fail
                  go_region_held3 (fun _ => True) (first | trivial) ((refine step_copy_bytes rfl (.tmp 89) (.tmp 90) 28 28 rfl 5 Try.underlying28 size8 gs 8 8 8 (some ⟨w11.heap.size, 0, none⟩) 8 8 (by simp [Act.eval]) (by simp [Act.eval]) (spl st 0 x1) 5 (HB14.out.ext (by repeat' (first | (with_reducible first | exact Below.refl _ _ | assumption | refine below_drewN ?_ _ | refine Below.drew ?_ | refine ext_alloc ?_ _ | refine Below.setCell ?_ ?_ _) | go_size))) x2 (HA2.out.ext (by repeat' (first | (with_reducible first | exact Below.refl _ _ | assumption | refine below_drewN ?_ _ | refine Below.drew ?_ | refine ext_alloc ?_ _ | refine Below.setCell ?_ ?_ _) | go_size))) (by omega) (by omega) (by rw [HSL.out]; omega) ?_; intro W15 B15 G15; have HB15 := hide B15; have HG15 := hide G15; clear B15 G15))
                  obtain ⟨tb, tt_, hA', _⟩ := HT.out.addr hm0
                  subst hA'
                  have htb : tb < gs := HNE.out _ rfl
                  have hwg : w.heap.size ≤ gs := HG.out
                  have s13 := E13.out.size
                  have xr := hide (Ext.trans HX.out HX'.out)
                  have z14 := HG14.out.size
                  have sr := xr.out.size
                  have X14 : Ext w W14 := Below.grown (Ext.trans xr.out E13.out) HG14.out (by omega) (fun k h => by injection h with h; omega)
                  have X15 : Hid (Ext w W15) := hide (Below.grown (show Ext w _ from (by repeat' (first | (with_reducible first | exact Below.refl _ _ | assumption | refine below_drewN ?_ _ | refine Below.drew ?_ | refine ext_alloc ?_ _ | refine Below.setCell ?_ ?_ _) | go_size))) HG15.out (by simp; omega) (fun k h => by injection h with h; omega))
                  have hne : ∀ a : Addr, some (⟨tb, tt_, none⟩ : Addr) = some a → some a.block ≠ some gs := fun a h1 h2 => by injection h1 with h1; injection h2 with h2; subst h1; simp at h2; omega
                  have T14 := ((HT.out.ext HX'.out).ext E13.out).grown HG14.out hne
                  have T15 := hide ((T14.ext (show Ext W14 _ from (by repeat' (first | (with_reducible first | exact Below.refl _ _ | assumption | refine below_drewN ?_ _ | refine Below.drew ?_ | refine ext_alloc ?_ _ | refine Below.setCell ?_ ?_ _) | go_size)))).grown HG15.out hne)
                  have T15a : Hid (c' = 16 → At W15 1 e8 (some ⟨tb, tt_, none⟩) (m - 16) 0 (t.drop 16)) := hide (fun h => by
                    have q := T15.out.cut (k := 16) hm16
                    rw [if_pos h] at q
                    rw [h] at q
                    exact q)
                  have T15b : Hid (¬ c' = 16 → At W15 1 e8 (some ⟨tb, tt_ + 16, none⟩) (m - 16) (c' - 16) (t.drop 16)) := hide (fun h => T15.out.cutAt (k := 16) hm16 (by omega))
                  have S15 : Hid (Blk W15 gs 5 ((digStep st p).map B8).toArray) := hide (by
                    have q := HB15.out
                    rw [spl_two _ _ _ HL.out HX1L.out HX2L.out] at q
                    have e : x1 ++ x2 = digStep st p := by rw [HX1.out, HX2.out, ← HX9.out, ← HX11.out, HPN.out]; rfl
                    rw [e] at q
                    exact q)
                  have D15 : Hid (digN ((m - 16) / 16) (t.drop 16) (digStep st p) = digest l) := hide (by
                    have q := HD.out
                    rw [show m / 16 = (m - 16) / 16 + 1 by omega, digN, ← HP.out] at q
                    exact q)
                  clear HA2 HT16 T14 T15 hne X14 s13 z14 sr
                  go_wp2
                  · exact ⟨⟨_, _, _, ⟨rfl, rfl, rfl⟩, by omega, t.drop 16, digStep st p, hide rfl, T15a.out (by first | assumption | omega), S15, D15, HNE⟩, by simp [lenV]; omega⟩
                  · exact ⟨⟨_, _, _, ⟨rfl, rfl, rfl⟩, by omega, t.drop 16, digStep st p, hide rfl, T15b.out (by assumption), S15, D15, hide (fun a h => by injection h with h; subst h; exact htb)⟩, by simp [lenV]; omega⟩
            · have hmz : m = 0 := by omega
              subst hmz
              have hdg : st = digest l := HD.out
              have HDG := hide hdg
              clear hdg
              go_wp2
              go_ret
              refine ⟨gs, rfl, ?_, HX.out⟩
              rw [← HDG.out]
              exact own_blk HS.out hgw HL.out
theorem own_splice {w : World} {base g N C off n : Nat} {te : TypeId} {xs m : List UInt8} {cur : Array Value} (hg : Blk w g te cur) (hb : base ≤ g) (hNC : N ≤ C) (hCm : C ≤ maxLen) (hcs : cur.size = C) (hl : xs.length = N) (ht : cur.toList.take N = xs.flatMap e8) (hml : m.length = n) (hfit : off + n ≤ N) :
    Own (w.setRow g (cur.toList.take off ++ (m.map B8 ++ cur.toList.drop (off + n))).toArray) base te 1 e8 (.slice (some ⟨g, 0, none⟩) N C) (spl xs off m) := by
  have hsl : (spl xs off m).length = N := by rw [length_spl _ _ _ (by omega), hl]
  have hcl : cur.toList.length = C := by simpa using hcs
  refine ⟨by rw [flat_len len_e8], .inr ⟨g, C, _, by rw [hsl], hb, setRow_heap w g cur _ te (0, 0) hg, by omega, hCm, by simp; omega, ?_⟩⟩
  rw [hsl, Nat.mul_one, flat8, map_spl]
  have e : xs.map B8 = cur.toList.take N := by rw [ht, flat8]
  rw [e]
  simp only [List.length_map, hml]
  rw [List.take_take, Nat.min_eq_left (by omega)]
  rw [← hml]
  simp [List.take_append, List.take_take, List.drop_take, hml, hcl]
  rw [Nat.min_eq_right (by omega), Nat.min_eq_left (by omega), List.take_of_length_le (l := m.map B8) (by simp; omega), Nat.sub_sub]
theorem wpList_copy_ownB {P : Program} {w : World} {ops : Array Oper} {rest : List Oper} {o : Oper} {a : Act} {Q : Exit → Act → World → Prop} (hgd : o.guard = none) (d s : Operand) (dT sT : TypeId)
    (ho : o.op = .call { callee := .builtin .copy, args := #[d, s], argTypes := #[dT, sT] }) (elem : TypeId) (hu : P.underlying dT = some (.slice elem)) (hsz : (P.info? elem).map (·.size) = some 1)
    {base g N C off dl dc : Nat} {te : TypeId} {A : Option Addr} {n c : Nat} {xs m : List UInt8} (hd : a.eval d = .slice (some ⟨g, off, none⟩) dl dc) (hs : a.eval s = .slice A n c)
    (hown : Own w base te 1 e8 (.slice (some ⟨g, 0, none⟩) N C) xs) (hm : At w 1 e8 A n c m) (hn : n ≤ dl) (hn0 : 0 < n) (hfit : off + n ≤ N)
    (h : ∀ w', Own w' base te 1 e8 (.slice (some ⟨g, 0, none⟩) N C) (spl xs off m) → w.grownBy w' (some g) → wpList P ops Q rest (a.put o.dst (goInt n)) w') : wpList P ops Q (o :: rest) a w := by
  obtain ⟨b, so, rfl, hc⟩ := hm.addr hn0
  have hl := hm.len
  obtain ⟨cur, hg, hNC, hCm, hcs, hxl, ht, hb⟩ := hown.row1
  have e : (m.map B8).length = n := by simp [hl]
  refine wpList_copy_own hgd d s dT sT ho elem hu hsz g off dl dc ⟨b, so, none⟩ n c hd hs cur te hg (m.map B8) (by rw [e]; exact (Nat.min_eq_left hn).symm) (fun j v hv => ?_) (by rw [e]; omega) (fun v hv => ?_) ?_
  · have hj : j < m.length := by have := (List.getElem?_eq_some_iff.1 hv).1; simpa using this
    rw [List.getElem?_map, List.getElem?_eq_getElem hj] at hv
    have := hc j hj 0 v (by simpa using hv)
    rw [Addr.add_lit]
    simpa using this
  · obtain ⟨x, _, rfl⟩ := List.mem_map.1 hv
    rfl
  · rw [e]
    refine h _ (own_splice hg hb hNC hCm hcs hxl ht hl hfit) ⟨rfl, rfl, rfl, by simp, fun k _ hk => setRow_other w g k _ (fun e => hk (by rw [e]))⟩
theorem modeFault_ok (A1 A2 A3 : Option Addr) (c1 c2 n3 c3 : Nat) (h : n3 ≤ 100000) (w : World) :
    Calls Try.prog 40 #[.slice A1 16 c1, .slice A2 8 c2, .slice A3 n3 c3] w fun e w' => e = .returned (.int .i64 0) ∧ w = w' := by
  go_enter Try.func40, Try.ntmps40
  go_wp2
  go_ret
  exact ⟨rfl, rfl⟩
def modeF (n1 n2 n3 : Nat) : Int := if ¬ (n1 = 16 ∧ n2 = 8) then 3 else if 100000 < n3 then 2 else 0
theorem modeFault_bad (A1 A2 A3 : Option Addr) (n1 n2 c1 c2 n3 c3 : Nat) (w : World) :
    Calls Try.prog 40 #[.slice A1 n1 c1, .slice A2 n2 c2, .slice A3 n3 c3] w fun e w' => e = .returned (.int .i64 (modeF n1 n2 n3)) ∧ w = w' := by
  unfold modeF
  by_cases h : n1 = 16 ∧ n2 = 8
  · rw [if_neg (by simp [h])]
    obtain ⟨rfl, rfl⟩ := h
    by_cases h3 : 100000 < n3
    · rw [if_pos h3]
      go_enter Try.func40, Try.ntmps40
      go_wp2
      go_ret
      exact ⟨rfl, rfl⟩
    · rw [if_neg h3]
      exact modeFault_ok _ _ _ _ _ _ _ (by omega) _
  · rw [if_pos h]
    by_cases h1 : n1 = 16
    · subst h1
      have h2 : ((n2 : Int) != 8) = true := neq_b (by omega)
      clear h
      go_enter Try.func40, Try.ntmps40
      go_wp2
      go_ret
      exact ⟨rfl, rfl⟩
    · have h2 : ((n1 : Int) != 16) = true := neq_b (by omega)
      clear h h1
      go_enter Try.func40, Try.ntmps40
      go_wp2
      go_ret
      exact ⟨rfl, rfl⟩
set_option maxRecDepth 100000 in
set_option maxHeartbeats 2000000 in
theorem chain_own {A1 A2 : Option Addr} {c1 c2 : Nat} {l m xs : List UInt8} {w : World} {base g N C off : Nat} (h1 : At w 1 e8 A1 16 c1 l) (h2 : At w 1 e8 A2 8 c2 m)
    (ho : Own w base 5 1 e8 (.slice (some ⟨g, 0, none⟩) N C) xs) (hoff : off + 8 ≤ N) :
    Calls Try.prog 19 #[.slice A1 16 c1, .slice A2 8 c2, .slice (some ⟨g, off, none⟩) (N - off) (C - off)] w fun e w' => e = .returned (.slice (some ⟨g, off, none⟩) 8 (C - off)) ∧
      Own w' base 5 1 e8 (.slice (some ⟨g, 0, none⟩) N C) (spl xs off (encB l (xor8 ((xs.drop off).take 8) m))) ∧ w.grownBy w' (some g) := by
  have hat := ho.atS len_e8
  have hNC := hat.le
  have hbd := hat.boundc
  have hx0 := (hat.cutAt (k := off) (by omega) (by omega)).upto (k := 8) (by omega)
  rw [Nat.mul_one, Nat.zero_add] at hx0
  have H1 := hide h1; have H2 := hide h2; have HO := hide ho; have HX0 := hide hx0
  have hgl := (ho.lt g rfl).2
  have i8 : (8 : Int) ≤ ((C - off : Nat) : Int) := by omega
  have i9 : 8 ≤ C - off := by omega
  have i10 : 8 ≤ N - off := by omega
  clear h1 h2 ho hx0 hat
  go_enter Try.func19, Try.ntmps19
  go_wp2_with fail
  refine (xor_any HX0.out H2.out (by omega) (by omega)).mono ?_
  rintro e w1 ⟨rfl, e1⟩
  have hl1 : (xor8 ((xs.drop off).take 8) m).length = 8 := rfl
  generalize hx1 : xor8 ((xs.drop off).take 8) m = x1 at *
  have HXX := hide hx1; have HL1 := hide hl1; have E1 := hide e1
  clear hx1 hl1 e1
  go_wp2_with fail
  refine gen_calls fun W1 hW1 => ?_
  have A3 : Hid (At W1 1 e8 (some ⟨w1.heap.size, 0, none⟩) 8 8 x1) := hide (by rw [hW1]; exact At.new8 w1 x1 HL1.out 90)
  have B3 : Hid (Blk W1 w1.heap.size 90 #[B8 (x1.getD 0 0), B8 (x1.getD 1 0), B8 (x1.getD 2 0), B8 (x1.getD 3 0), B8 (x1.getD 4 0), B8 (x1.getD 5 0), B8 (x1.getD 6 0), B8 (x1.getD 7 0)]) := hide (by rw [hW1]; exact Blk.new w1 _ _)
  have EW : Hid (Ext w W1) := hide (by have h1 := E1.out; rw [hW1]; exact ext_alloc h1 _)
  have z1 : w.heap.size ≤ w1.heap.size := E1.out.size
  clear hW1
  refine (encrypt_any (H1.out.ext EW.out) A3.out (by omega) (by omega)).mono ?_
  rintro e w2 ⟨rfl, e2⟩
  have hl2 : (encB l x1).length = 8 := rfl
  generalize hx2 : encB l x1 = x2 at *
  have HX2 := hide hx2; have HL2 := hide hl2
  have E2 := hide (Ext.trans EW.out e2)
  have B4 := B3.out.ext e2
  have fz := B4.frozen; have q0 := B4.cell 0; have q1 := B4.cell 1; have q2 := B4.cell 2; have q3 := B4.cell 3; have q4 := B4.cell 4; have q5 := B4.cell 5; have q6 := B4.cell 6; have q7 := B4.cell 7
  have HB4 := hide B4
  clear hx2 hl2 e2 B4 A3 B3
  simp only [List.getElem?_toArray, List.getElem?_cons_zero, List.getElem?_cons_succ] at q0 q1 q2 q3 q4 q5 q6 q7
  have B5 := HB4.out.set8 (B8 (x2.getD 0 0)) (B8 (x2.getD 1 0)) (B8 (x2.getD 2 0)) (B8 (x2.getD 3 0)) (B8 (x2.getD 4 0)) (B8 (x2.getD 5 0)) (B8 (x2.getD 6 0)) (B8 (x2.getD 7 0))
  rw [arr8 x2 HL2.out] at B5
  have A5 := At.blk B5 (by rw [HL2.out]; unfold maxLen; omega)
  rw [HL2.out] at A5
  have HA5 := hide A5
  clear A5 B5
  go_wp2_with (refine wpList_copy_ownB (o := ⟨some 17, _, _, _, _, _⟩) rfl (.tmp 15) (.tmp 16) 28 28 rfl 5 Try.underlying28 size8 (base := base) (g := g) (N := N) (C := C) (off := off) (te := 5) (n := 8) (xs := xs) (m := x2) rfl rfl ?own ?at_ i10 (by omega) (by omega) ?_; rotate_left 2; intro W4 o4 g4; have O4 := hide o4; have G4 := hide g4; clear o4 g4)
  case own => exact HO.out.ext (by have h := E2.out; exact (by repeat' (first | (with_reducible first | exact Below.refl _ _ | assumption | refine below_drewN ?_ _ | refine Below.drew ?_ | refine ext_alloc ?_ _ | refine Below.setCell ?_ ?_ _) | go_size)))
  case at_ => exact HA5.out
  go_ret
  refine ⟨rfl, ?_, ?_⟩
  · rw [HXX.out, HX2.out]; exact O4.out
  · exact (ext_grown (by have h := E2.out; exact (by repeat' (first | (with_reducible first | exact Below.refl _ _ | assumption | refine below_drewN ?_ _ | refine Below.drew ?_ | refine ext_alloc ?_ _ | refine Below.setCell ?_ ?_ _) | go_size))) (some g)).trans G4.out
def UnchPost (w : World) (base g N C off : Nat) (l m xs : List UInt8) (e : Ending) (w' : World) : Prop :=
  ∃ A c, e = .returned (.slice A 8 c) ∧ At w' 1 e8 A 8 c ((xs.drop off).take 8) ∧ (∀ a, A = some a → w.heap.size ≤ a.block) ∧
    Own w' base 5 1 e8 (.slice (some ⟨g, 0, none⟩) N C) (spl xs off (xor8 (decB l ((xs.drop off).take 8)) m)) ∧ w.grownBy w' (some g)
set_option maxRecDepth 100000 in
set_option maxHeartbeats 2000000 in
theorem unchain_own {A1 A2 : Option Addr} {c1 c2 : Nat} {l m xs : List UInt8} {w : World} {base g N C off : Nat} (h1 : At w 1 e8 A1 16 c1 l) (h2 : At w 1 e8 A2 8 c2 m)
    (ho : Own w base 5 1 e8 (.slice (some ⟨g, 0, none⟩) N C) xs) (hoff : off + 8 ≤ N) :
    Calls Try.prog 30 #[.slice A1 16 c1, .slice A2 8 c2, .slice (some ⟨g, off, none⟩) (N - off) (C - off)] w (UnchPost w base g N C off l m xs) := by
  obtain ⟨i0, hi0, hz0, hz1, hz2⟩ := info_parts Try.infoK5
  have hat := ho.atS len_e8
  have hNC := hat.le
  have hbd := hat.boundc
  have hx0 := (hat.cutAt (k := off) (by omega) (by omega)).upto (k := 8) (by omega)
  rw [Nat.mul_one, Nat.zero_add] at hx0
  obtain ⟨y, hy⟩ : ∃ y, y = (xs.drop off).take 8 := ⟨_, rfl⟩
  rw [← hy] at hx0
  have hyl := hx0.len
  have H1 := hide h1; have H2 := hide h2; have HO := hide ho; have HX0 := hide hx0; have HY := hide hy; have HYL := hide hyl
  have hgl := (ho.lt g rfl).2
  have i8 : (8 : Int) ≤ ((C - off : Nat) : Int) := by omega
  have i9 : 8 ≤ C - off := by omega
  have i10 : 8 ≤ N - off := by omega
  clear h1 h2 ho hx0 hat hy hyl
  go_enter Try.func30, Try.ntmps30
  go_wp2_with (at_builtin; refine wpList_append_at _ rfl (.const (.slice none 0 0)) (.tmp 10) 28 rfl w.heap.size 5 i0 _ 1 Try.underlying28 hi0 hz0 hz1 hz2 rfl (by omega) len_e8 one_e8 (.slice none 0 0) [] rfl (Own.nil _ _ _ _ _) (some ⟨g, off, none⟩) 8 (C - off) y rfl HX0.out ?b1 ?b2 ?b3 ?_)
  case b1 => simp; unfold maxLen; omega
  case b2 => simp
  case b3 => exact Nat.le_refl _
  intro v1 w1 o1 g1 _ _
  have X1 : Ext w w1 := (Own.nil w w.heap.size 5 1 e8).below (Ext.refl w) g1 (Nat.le_refl _)
  have o1' : Own w1 w.heap.size 5 1 e8 v1 y := o1
  obtain ⟨A1', c1', hv1, _⟩ := o1'.at_ len_e8
  rw [HYL.out] at hv1
  rw [hv1] at o1' ⊢
  have P1 := hide (o1'.atS len_e8)
  have hbp : Hid (∀ a, A1' = some a → w.heap.size ≤ a.block) := hide (fun a ha => by
    have := o1'.lt a.block (by rw [ha]; rfl)
    exact this.1)
  have E1 := hide X1
  clear o1 g1 X1 o1' hv1
  go_wp2_with fail
  refine (decrypt_any (H1.out.ext E1.out) P1.out (by omega) (by omega)).mono ?_
  rintro e w2 ⟨rfl, e2⟩
  have hl2 : (decB l y).length = 8 := rfl
  generalize hx2 : decB l y = x2 at *
  have HX2 := hide hx2; have HL2 := hide hl2
  have E2 := hide (Ext.trans E1.out e2)
  have P2 := hide (P1.out.ext e2)
  have z2 := e2.size
  have z1 := E1.out.size
  have hplt : Hid (∀ a, A1' = some a → a.block < w2.heap.size) := hide (fun a ha => by
    obtain ⟨b, o, hb, hc⟩ := P2.out.addr (by omega)
    rw [hb] at ha
    injection ha with ha
    subst ha
    have hl := P2.out.len
    exact cell_lt (hc 0 (by omega) 0 _ rfl))
  clear hx2 hl2 e2 P1
  go_wp2_with fail
  refine gen_calls fun W1 hW1 => ?_
  have A3 : Hid (At W1 1 e8 (some ⟨w2.heap.size, 0, none⟩) 8 8 x2) := hide (by rw [hW1]; exact At.new8 w2 x2 HL2.out 90)
  have B3 : Hid (Blk W1 w2.heap.size 90 #[B8 (x2.getD 0 0), B8 (x2.getD 1 0), B8 (x2.getD 2 0), B8 (x2.getD 3 0), B8 (x2.getD 4 0), B8 (x2.getD 5 0), B8 (x2.getD 6 0), B8 (x2.getD 7 0)]) := hide (by rw [hW1]; exact Blk.new w2 _ _)
  have EW2 : Ext w2 W1 := by rw [hW1]; exact Ext.alloc _ _
  have P3 := hide (P2.out.ext EW2)
  have EW := hide (Ext.trans E2.out EW2)
  clear hW1 EW2 P2
  refine (xor_any A3.out (H2.out.ext EW.out) (by omega) (by omega)).mono ?_
  rintro e w3 ⟨rfl, e3⟩
  have hl3 : (xor8 x2 m).length = 8 := rfl
  generalize hx3 : xor8 x2 m = x3 at *
  have HX3 := hide hx3; have HL3 := hide hl3
  have E3 := hide (Ext.trans EW.out e3)
  have P4 := hide (P3.out.ext e3)
  have B4 := B3.out.ext e3
  have fz := B4.frozen; have q0 := B4.cell 0; have q1 := B4.cell 1; have q2 := B4.cell 2; have q3 := B4.cell 3; have q4 := B4.cell 4; have q5 := B4.cell 5; have q6 := B4.cell 6; have q7 := B4.cell 7
  have B5 := B4.set8 (B8 (x3.getD 0 0)) (B8 (x3.getD 1 0)) (B8 (x3.getD 2 0)) (B8 (x3.getD 3 0)) (B8 (x3.getD 4 0)) (B8 (x3.getD 5 0)) (B8 (x3.getD 6 0)) (B8 (x3.getD 7 0))
  rw [arr8 x3 HL3.out] at B5
  have A5 := At.blk B5 (by rw [HL3.out]; unfold maxLen; omega)
  rw [HL3.out] at A5
  have HA5 := hide A5
  clear hx3 hl3 e3 B4 A3 B3 A5 B5 P3
  simp only [List.getElem?_toArray, List.getElem?_cons_zero, List.getElem?_cons_succ] at q0 q1 q2 q3 q4 q5 q6 q7
  go_wp2_with (refine wpList_copy_ownB (o := ⟨some 20, _, _, _, _, _⟩) rfl (.tmp 18) (.tmp 19) 28 28 rfl 5 Try.underlying28 size8 (base := base) (g := g) (N := N) (C := C) (off := off) (te := 5) (n := 8) (xs := xs) (m := x3) rfl rfl ?own ?at_ i10 (by omega) (by omega) ?_; rotate_left 2; intro W4 o4 g4; have O4 := hide o4; have G4 := hide g4; clear o4 g4)
  case own => exact HO.out.ext (by have h := E3.out; exact (by repeat' (first | (with_reducible first | exact Below.refl _ _ | assumption | refine below_drewN ?_ _ | refine Below.drew ?_ | refine ext_alloc ?_ _ | refine Below.setCell ?_ ?_ _) | go_size)))
  case at_ => exact HA5.out
  go_ret
  refine ⟨A1', c1', rfl, ?_, hbp.out, ?_, ?_⟩
  · rw [← HY.out]
    refine At.grown ?_ G4.out (fun a ha => ?_)
    · refine At.grown P4.out (((((((((grown_setK _ w2.heap.size _ _).trans (grown_setK _ _ _ _)).trans (grown_setK _ _ _ _)).trans (grown_setK _ _ _ _)).trans (grown_setK _ _ _ _)).trans (grown_setK _ _ _ _)).trans (grown_setK _ _ _ _)).trans (grown_setK _ _ _ _))) (fun a ha => ?_)
      have := hplt.out a ha
      intro hh; injection hh with hh; omega
    · have := hbp.out a ha
      intro hh; injection hh with hh; omega
  · rw [← HY.out, HX2.out, HX3.out]; exact O4.out
  · exact (ext_grown (by have h := E3.out; exact (by repeat' (first | (with_reducible first | exact Below.refl _ _ | assumption | refine below_drewN ?_ _ | refine Below.drew ?_ | refine ext_alloc ?_ _ | refine Below.setCell ?_ ?_ _) | go_size))) (some g)).trans G4.out
end Go.Proofs.Ytkbmgakehlmcnaa
