/- Proved: for every scheme, key, iv, bytes and list KeyProtectsComeBack returns true: Open takes Protect back, and Protect changes no byte that is not Touched; the arguments read as they did. Conditions: none. -/
import Derived.Test.YtifmgngmkajahaaBackA
import Derived.Test.YtifmgngmkajahaaOpen
import Derived.Test.YtifmgngmkajahaaAwake
namespace Go.Proofs.Ytifmgngmkajahaa
open Go.ChangeShapes Go.WideShapes Go.ChangeAt Go.RowKit Kc

/-- Between the spans the bytes are the same. -/
def gapQ (x b : List UInt8) : Nat → List (Int × Int) → Prop
  | _, [] => True
  | at_, p :: r => ∃ f t : Nat, p = ((f : Int), (t : Int)) ∧ at_ ≤ f ∧ f ≤ b.length ∧ t ≤ b.length ∧ (x.drop at_).take (f - at_) = (b.drop at_).take (f - at_) ∧ gapQ x b t r
theorem same_part {x b : List UInt8} {a f : Nat} (h : ∀ i, a ≤ i → i < f → x[i]? = b[i]?) : (x.drop a).take (f - a) = (b.drop a).take (f - a) := by
  apply List.ext_getElem?
  intro j
  rw [List.getElem?_take, List.getElem?_take]
  split
  · rw [List.getElem?_drop, List.getElem?_drop, h (a + j) (by omega) (by omega)]
  · rfl
theorem gap_of {x b : List UInt8} : ∀ (T : List (Int × Int)) (a : Nat), chainS (a : Int) T → endS (a : Int) T ≤ (b.length : Int) → a ≤ b.length → (∀ i : Nat, a ≤ i → i < b.length → (¬ ∃ s ∈ T, s.1 ≤ (i : Int) ∧ (i : Int) < s.2) → x[i]? = b[i]?) → gapQ x b a (T ++ [((b.length : Int), (b.length : Int))])
  | [], a, _, _, ha, h => ⟨b.length, b.length, rfl, ha, Nat.le_refl _, Nat.le_refl _, same_part (fun i h1 h2 => h i h1 h2 (by simp)), trivial⟩
  | s :: r, a, ⟨c1, c2, c3⟩, he, ha, h => by
    have hle := (chainS_le r c3).1
    rw [endS] at he
    have e1 : ((s.1.toNat : Nat) : Int) = s.1 := by omega
    have e2 : ((s.2.toNat : Nat) : Int) = s.2 := by omega
    refine ⟨s.1.toNat, s.2.toNat, by rw [e1, e2], by omega, by omega, by omega, same_part (fun i h1 h2 => h i h1 (by omega) ?_), gap_of r s.2.toNat (by rw [e2]; exact c3) (by rw [e2]; exact he) (by omega) (fun i h1 h2 h3 => h i (by omega) h2 ?_)⟩
    · rintro ⟨u, hu, h4, h5⟩
      rcases List.mem_cons.1 hu with rfl | hu
      · omega
      · have := chainS_ge r c3 u hu; omega
    · rintro ⟨u, hu, h4, h5⟩
      rcases List.mem_cons.1 hu with rfl | hu
      · omega
      · exact h3 ⟨u, hu, h4, h5⟩
/-- What Protect makes, taken back; and what it leaves. -/
theorem back_law {m c s : Int} {k v b : List UInt8} {n1 n2 n : Nat} {l : List (Int × Int)} (hb : b.length = n) (h : codF m c s n1 n2 n l = 0) :
    (codV m c s false k v b n1 n2 n l).length = n ∧ codV m c s true k v (codV m c s false k v b n1 n2 n l) n1 n2 n l = b ∧ touF m c s (n : Int) l = 0 ∧
      gapQ (codV m c s false k v b n1 n2 n l) b 0 (touV m c s (n : Int) l ++ [((n : Int), (n : Int))]) := by
  obtain ⟨h1, h2, h3⟩ := codF_zero h
  obtain ⟨_, _, hn⟩ := modeF_zero h2
  obtain ⟨hm, hm1, hc, hs, hc0⟩ := schF_zero h1
  obtain ⟨cn, rfl⟩ : ∃ q : Nat, c = (q : Int) := ⟨c.toNat, by omega⟩
  obtain ⟨sn, rfl⟩ : ∃ q : Nat, s = (q : Int) := ⟨s.toNat, by omega⟩
  have hP := (parts_chain h3 (by omega)).1
  have hM : ∀ p ∈ partsP l (n : Int), p.2 ≤ (b.length : Int) := fun p hp => by rw [hb]; exact (parts_mem h3 (by omega) hp).2.2
  have hV : ∀ (back : Bool) (y : List UInt8), codV m (cn : Int) (sn : Int) back k v y n1 n2 n l = (codK m cn sn back k v y (partsP l (n : Int))).1 := fun back y => by
    unfold codV; rw [if_neg (by omega), Int.toNat_natCast, Int.toNat_natCast]
  have hT : touF m (cn : Int) (sn : Int) (n : Int) l = 0 := by unfold touF; rw [if_neg (by omega), if_neg (by omega), h3]
  have hL := codK_len (m := m) (c := cn) (s := sn) (back := false) (k := k) (v := v) (b := b) hP hM
  rw [hV, hV]
  refine ⟨by rw [hL, hb], codK_back m cn sn k v b hP hM, hT, ?_⟩
  have hTV : touV m (cn : Int) (sn : Int) (n : Int) l = runsU (bitsOf m (cn : Int) (sn : Int) (partsR l (n : Int))) n := by
    have := touch_same (m := m) (c := (cn : Int)) (s := (sn : Int)) h3 (show (0 : Int) ≤ (n : Int) by omega)
    rw [Int.toNat_natCast] at this
    unfold touV; rw [if_neg (by omega), this]
  rw [hTV]
  obtain ⟨r1, r2, r3⟩ := runs_cover (bitsOf m (cn : Int) (sn : Int) (partsR l (n : Int))) n
  have hg := gap_of (x := (codK m cn sn false k v b (partsP l (n : Int))).1) (b := b) (runsU (bitsOf m (cn : Int) (sn : Int) (partsR l (n : Int))) n) 0 r1 (by rw [hb]; exact r2) (Nat.zero_le _) (fun i _ hi hno => by
    refine codK_skip (fun h => by have := hc0 (by omega); omega) hP hM hi (fun p hp hp1 hp2 => ?_)
    cases hpb : partBit m (cn : Int) (sn : Int) p (i : Int) with
    | false => rfl
    | true =>
      exfalso
      apply hno
      refine (r3 (i : Int) (by omega) (by omega)).1 ?_
      unfold bitsOf
      rw [bitsOf_iff (partsR l (n : Int)) _ (lo := 0) (by rw [parts_filter h3]; exact chain_filter _ hP) (fun h => by simp at h)]
      right
      refine ⟨p, ?_, hp1, hp2, hpb⟩
      rw [parts_filter h3]
      exact List.mem_filter.2 ⟨hp, by simp; omega⟩)
  rw [hb] at hg
  exact hg

theorem cloneS_any {A : Option Addr} {n c : Nat} {l : List (Int × Int)} {w : World} (h : At w 2 e2 A n c l) (hb : n ≤ 100000000) :
    Calls Try.prog 76 #[.slice A n c] w fun e w' => ∃ A' c', e = .returned (.slice A' n c') ∧ Own w' w.heap.size 33 2 e2 (.slice A' n c') l ∧ Ext w w' := by
  obtain ⟨i0, hi0, hz0, hz1, hz2⟩ := info_parts Try.info33
  have hl := h.len
  have H := hide h
  have HL := hide hl
  clear hl h
  cases A with
  | none =>
    have hn := H.out.none_ rfl
    have hle := H.out.le
    obtain rfl : n = 0 := by omega
    have hc0 : c = 0 := hn
    subst hc0
    have e1 := fun (W : World) => Lib.run_eql_slice_nil (P := Try.prog) W 58 33 none 0 0 0 0 Try.underlying58
    go_enter Try.func76, Try.ntmps76
    obtain rfl : l = [] := List.eq_nil_of_length_eq_zero HL.out
    go_wp2
    go_ret
    exact ⟨none, 0, rfl, Own.nil _ _ _ _ _, Ext.refl _⟩
  | some a =>
    have e1 := fun (W : World) => Lib.run_eql_slice_nil (P := Try.prog) W 58 33 (some a) n c 0 0 Try.underlying58
    go_enter Try.func76, Try.ntmps76
    have o0 : Own (w.alloc (.cells #[] 33)) w.heap.size 33 2 e2 (.slice (some ⟨w.heap.size, 0, none⟩) 0 0) [] :=
      ⟨by simp, .inr ⟨w.heap.size, 0, #[], rfl, Nat.le_refl _, heap_alloc_new w _, Nat.le_refl _, by unfold maxLen; omega, rfl, rfl⟩⟩
    have O0 := hide o0
    clear o0
    go_wp2_with (at_builtin; refine wpList_append_at _ rfl (.tmp 5) (.tmp 6) 58 rfl w.heap.size 33 i0 _ 16 Try.underlying58 hi0 hz0 hz1 hz2 rfl (by omega) len_e2 one_e2 (.slice (some ⟨w.heap.size, 0, none⟩) 0 0) [] rfl O0.out (some a) n c l rfl (H.out.ext (by repeat' (first | (with_reducible exact Below.refl _ _) | (with_reducible assumption) | (with_reducible refine below_drewN ?_ _) | (with_reducible refine Below.drew ?_) | (with_reducible refine ext_alloc ?_ _) | (with_reducible refine Below.setCell ?_ ?_ _) | go_size))) ?b1 ?b2 ?b3 ?_)
    case b1 => simp; have := H.out.max; have := H.out.le; unfold maxLen at *; omega
    case b2 => simp; omega
    case b3 => simp
    intro v3 w3 o3 g3 n3 _
    have o3' : Own w3 w.heap.size 33 2 e2 v3 l := o3
    obtain ⟨A3, c3, hv3, _⟩ := o3'.at_ len_e2
    rw [HL.out] at hv3
    rw [hv3] at o3' ⊢
    have O3 := hide o3'
    have E3 := hide (O0.out.below (Ext.alloc w (.cells #[] 33)) g3 (Nat.le_refl _))
    clear o3 o3' g3 n3 hv3
    go_wp2
    go_ret
    exact ⟨A3, c3, rfl, O3.out, E3.out⟩

theorem drop_consQ (l : List (Int × Int)) (k : Nat) (h : k < l.length) : l.drop k = l.getD k (0, 0) :: l.drop (k + 1) := by
  rw [List.drop_eq_getElem_cons h]
  simp [List.getD, h]
theorem keyTouched_of {A : Option Addr} {n c : Nat} {l : List (Int × Int)} {m cr sk z : Int} {w : World} (h : At w 2 e2 A n c l) :
    Calls Try.prog 44 #[schV m cr sk, .int .i64 z, .slice A n c] w (Gives 2 e2 w (touV m cr sk z l) (touF m cr sk z l)) := by
  by_cases hF : touF m cr sk z l = 0
  · exact keyTouched_ok h hF
  · exact keyTouched_bad h hF
set_option maxRecDepth 100000 in
set_option maxHeartbeats 2000000 in
theorem back_bad {A1 A2 A3 A4 : Option Addr} {c1 c2 c3 c4 n1 n2 n n4 : Nat} {k v b : List UInt8} {l : List (Int × Int)} {m c s : Int} {w : World} (h1 : At w 1 e8 A1 n1 c1 k) (h2 : At w 1 e8 A2 n2 c2 v) (h3 : At w 1 e8 A3 n c3 b) (h4 : At w 2 e2 A4 n4 c4 l) (hF : codF m c s n1 n2 n l ≠ 0) :
    Calls Try.prog 19 #[schV m c s, .slice A1 n1 c1, .slice A2 n2 c2, .slice A3 n c3, .slice A4 n4 c4] w fun e w' => e = .returned (.bool true) ∧ Ext w w' := by
  have HX := hide (Ext.alloc w (.cells #[.int .i64 m, .int .i64 c, .int .i64 s] 57))
  have KP := hide (fun (W : World) (hx : Ext w W) => keyProtect_any (m := m) (c := c) (s := s) (h1.ext hx) (h2.ext hx) (h3.ext hx) (h4.ext hx))
  rw [codV_none hF] at KP
  have hb : (codF m c s n1 n2 n l != 0) = true := by rw [bne_iff_ne]; exact hF
  generalize codF m c s n1 n2 n l = F at *
  clear h1 h2 h3 h4 hF
  go_enter Try.func19, Try.ntmps19
  go_wp2_with fail
  refine (KP.out _ HX.out).mono ?_
  rintro e w1 ⟨A5, q5, d5, rfl, a5, e5⟩
  obtain rfl : q5 = 0 := a5.len.symm
  have E1 := hide (Ext.trans HX.out e5)
  clear a5 e5
  go_wp2_with fail
  refine (awake_any _).mono ?_
  rintro e w5 ⟨rfl, e9⟩
  have E5 := hide (Ext.trans E1.out e9)
  clear e9
  go_wp2
  go_ret
  exact ⟨rfl, E5.out⟩

set_option maxRecDepth 100000 in
set_option maxHeartbeats 4000000 in
theorem back_ok {A1 A2 A3 A4 : Option Addr} {c1 c2 c3 c4 n1 n2 n n4 : Nat} {k v b : List UInt8} {l : List (Int × Int)} {m c s : Int} {w : World} (h1 : At w 1 e8 A1 n1 c1 k) (h2 : At w 1 e8 A2 n2 c2 v) (h3 : At w 1 e8 A3 n c3 b) (h4 : At w 2 e2 A4 n4 c4 l) (hF : codF m c s n1 n2 n l = 0) :
    Calls Try.prog 19 #[schV m c s, .slice A1 n1 c1, .slice A2 n2 c2, .slice A3 n c3, .slice A4 n4 c4] w fun e w' => e = .returned (.bool true) ∧ Ext w w' := by
  obtain ⟨i0, hi0, hz0, hz1, hz2⟩ := info_parts Try.info33
  obtain ⟨q1, q2, q3, q4⟩ := back_law (k := k) (v := v) h3.len hF
  have hn : n ≤ 100000 := (modeF_zero (codF_zero hF).2.1).2.2
  have hcl : ∀ W, Ext (w.alloc (.cells #[.int .i64 m, .int .i64 c, .int .i64 s] 57)) W →
      W.cell? ⟨w.heap.size, 0, none⟩ = some (.int .i64 m) ∧ W.cell? ⟨w.heap.size, 1, none⟩ = some (.int .i64 c) ∧ W.cell? ⟨w.heap.size, 2, none⟩ = some (.int .i64 s) ∧ w.heap.size < W.heap.size := fun W hW => by
    have b1 := (Blk.new w 57 #[.int .i64 m, .int .i64 c, .int .i64 s]).ext hW
    exact ⟨b1.cell 0, b1.cell 1, b1.cell 2, b1.lt⟩
  have HCL := hide hcl
  have HX := hide (Ext.alloc w (.cells #[.int .i64 m, .int .i64 c, .int .i64 s] 57))
  have KP := hide (fun (W : World) (hx : Ext w W) => keyProtect_any (m := m) (c := c) (s := s) (h1.ext hx) (h2.ext hx) (h3.ext hx) (h4.ext hx))
  have KO := hide (fun (W : World) (hx : Ext w W) (A : Option Addr) (d : Nat) (ha : At W 1 e8 A n d (codV m c s false k v b n1 n2 n l)) => keyOpen_any (m := m) (c := c) (s := s) (h1.ext hx) (h2.ext hx) ha (h4.ext hx))
  have KT := hide (fun (W : World) (hx : Ext w W) => keyTouched_of (m := m) (cr := c) (sk := s) (z := (n : Int)) (h4.ext hx))
  have htl : (touV m c s (n : Int) l).length ≤ 100000 := by
    have h5 := (codF_zero hF).2.2
    have e := touch_same (m := m) (c := c) (s := s) h5 (show (0 : Int) ≤ (n : Int) by omega)
    unfold touV
    split
    · simp
    · rw [← e, Int.toNat_natCast]
      have := length_runsU (bitsOf m c s (partsR l (n : Int))) n
      omega
  have HTL := hide htl
  rw [q2] at KO
  rw [q3] at KT
  rw [hF] at KP KO
  have HB := hide h3
  have hle3 := h3.le
  have hcb3 := h3.boundc
  have hbl := hide h3.len
  generalize touV m c s (n : Int) l = T at *
  generalize codV m c s false k v b n1 n2 n l = V at *
  have HV := hide q1
  have HG := hide q4
  clear hcl h1 h2 h3 h4 hF q1 q2 q3 q4 htl
  go_enter Try.func19, Try.ntmps19
  go_wp2_with fail
  refine (KP.out _ HX.out).mono ?_
  rintro e w1 ⟨A5, q5, d5, rfl, a5, e5⟩
  obtain rfl : q5 = n := by rw [← a5.len]; exact HV.out
  have hle5 := a5.le
  have hcb5 := a5.boundc
  have E1 := hide e5
  have X1 := hide a5
  obtain ⟨k0, k1, k2, z1⟩ := HCL.out _ E1.out
  clear a5 e5
  go_wp2_with fail
  refine (KO.out _ (Ext.trans HX.out E1.out) _ _ X1.out).mono ?_
  rintro e w2 ⟨A6, q6, d6, rfl, a6, e6⟩
  have E2 := hide (Ext.trans E1.out e6)
  have X2 := hide (X1.out.ext e6)
  have Y2 := hide a6
  clear a6 e6 k0 k1 k2 z1 X1 E1
  obtain ⟨k0, k1, k2, z2⟩ := HCL.out _ E2.out
  go_wp2_with fail
  refine (KT.out _ (Ext.trans HX.out E2.out)).mono ?_
  rintro e w3 ⟨A7, q7, d7, rfl, a7, e7⟩
  have E3 := hide (Ext.trans HX.out (Ext.trans E2.out e7))
  have X3 := hide (X2.out.ext e7)
  have Y3 := hide (Y2.out.ext e7)
  have T3 := hide a7
  have hq7 := hide a7.len
  clear a7 e7 k0 k1 k2 z2 X2 Y2 E2
  go_wp2_with fail
  refine (bytesEq_true Y3.out (HB.out.ext E3.out) rfl).mono ?_
  rintro e w' ⟨rfl, rfl⟩
  go_wp2_with fail
  refine (awake_any _).mono ?_
  rintro e w4 ⟨rfl, e4⟩
  have E4 := hide (Ext.trans E3.out e4)
  have X4 := hide (X3.out.ext e4)
  have T4 := hide (T3.out.ext e4)
  clear e4 X3 Y3 T3 E3
  go_wp2_with fail
  refine (cloneS_any T4.out (by have := HTL.out; have := hq7.out; omega)).mono ?_
  rintro e w5 ⟨A8, d8, rfl, o8, e8'⟩
  have O8 := hide (o8.ext (Ext.alloc w5 (.cells #[.int .i64 (q5 : Int), .int .i64 (q5 : Int)] 33)))
  have E5 := hide (Ext.trans E4.out e8')
  have X5 := hide (X4.out.ext e8')
  have E6 := hide (Ext.trans e8' (Ext.alloc w5 (.cells #[.int .i64 (q5 : Int), .int .i64 (q5 : Int)] 33)))
  have z6 := E6.out.size
  have A9 := hide (At.pair1 w5 (q5 : Int) (q5 : Int) 33)
  clear o8 e8' T4
  go_wp2_with (at_builtin; refine wpList_append_at _ rfl (.tmp 77) (.tmp 83) 58 rfl w4.heap.size 33 i0 _ 16 Try.underlying58 hi0 hz0 hz1 hz2 rfl (by omega) len_e2 one_e2 _ T rfl O8.out (some ⟨w5.heap.size, 0, none⟩) 1 1 [((q5 : Int), (q5 : Int))] rfl A9.out ?d1 ?d2 ?d3 ?_)
  case d1 => have := HTL.out; unfold maxLen; omega
  case d2 => have := HTL.out; omega
  case d3 => exact z6
  intro v7 w7 o7 g7 _ _
  have E7 := hide (O8.out.below E6.out g7 (Nat.le_refl _))
  obtain ⟨A10, d10, hv7, a10⟩ := o7.at_ len_e2
  subst hv7
  have EW := hide (Ext.trans E4.out E7.out)
  have X7 := hide (X4.out.ext E7.out)
  have B7 := hide (HB.out.ext EW.out)
  have Q7 := hide a10
  generalize T ++ [((q5 : Int), (q5 : Int))] = Q at *
  generalize hQ : Q.length = lq at *
  have hbq := a10.bound
  have HQ := hide hQ
  clear o7 g7 O8 E6 A9 E5 X5 E4 X4 E7 a10 hQ z6
  go_wp2_with fail
  go_loopw [16, 86] (fun ra ri wr => ∃ j a : Nat, j ≤ lq ∧ ri = .int .i64 j ∧ ra = .int .i64 a ∧ a ≤ q5 ∧ Hid (gapQ V b a (Q.drop j)) ∧ Hid (Ext w7 wr)) (fun _ ri _ => lq - (intOf ri).toNat)
  case atStart => exact ⟨0, 0, by omega, rfl, rfl, by omega, by simpa using HG, hide (Ext.refl _)⟩
  case round =>
    obtain ⟨j, a, hj, rfl, rfl, ha, HGj, HXj⟩ := hrel
    by_cases hlt : j < lq
    · obtain ⟨pb, off, hAq, _⟩ := Q7.out.addr (by omega)
      subst hAq
      obtain ⟨p1, p2⟩ := (Q7.out.ext HXj.out).pair hlt
      have hg := HGj.out
      rw [drop_consQ Q j (by rw [HQ.out]; exact hlt)] at hg
      obtain ⟨f, t, hpf, haf, hfb, htb, heq, hrest⟩ := hg
      rw [hpf] at p1 p2
      simp only at p1 p2
      have hfn : f ≤ q5 := by rw [← hbl.out]; exact hfb
      have htn : t ≤ q5 := by rw [← hbl.out]; exact htb
      obtain ⟨As, sb, hs1⟩ := X7.out.range_ Try.underlying22 sizeByte haf hfn (a : Int) (f : Int) rfl rfl
      obtain ⟨Bs, sc, hs2⟩ := B7.out.range_ Try.underlying22 sizeByte haf hfn (a : Int) (f : Int) rfl rfl
      have HE := hide (fun (W : World) (hx : Ext w7 W) => bytesEq_true (hs1 _ (X7.out.ext hx)) (hs2 _ (B7.out.ext hx)) heq)
      have HR := hide hrest
      have j1 : decide ((f : Int) < (a : Int)) = false := by simp; omega
      clear hpf heq hrest HGj hs1 hs2 hfb htb
      go_wp2_with fail
      go_quiet ((go_at_call 20; exact quiet_left (HE.out _ (Ext.trans HXj.out (by repeat' (first | (with_reducible exact Below.refl _ _) | (with_reducible assumption) | (with_reducible refine below_drewN ?_ _) | (with_reducible refine Below.drew ?_) | (with_reducible refine ext_alloc ?_ _) | (with_reducible refine Below.setCell ?_ ?_ _) | go_size))))))
      go_wp2_with fail
      go_roundw
      case rel => exact ⟨j + 1, t, by omega, by rw [Int.natCast_add]; rfl, rfl, htn, HR, hide (Ext.trans HXj.out (by repeat' (first | (with_reducible exact Below.refl _ _) | (with_reducible assumption) | (with_reducible refine below_drewN ?_ _) | (with_reducible refine Below.drew ?_) | (with_reducible refine ext_alloc ?_ _) | (with_reducible refine Below.setCell ?_ ?_ _) | go_size)))⟩
      case measure => simp [intOf]; omega
    · go_wp2
      go_ret
      exact ⟨rfl, Ext.trans EW.out HXj.out⟩
theorem back_any {A1 A2 A3 A4 : Option Addr} {c1 c2 c3 c4 n1 n2 n n4 : Nat} {k v b : List UInt8} {l : List (Int × Int)} {m c s : Int} {w : World} (h1 : At w 1 e8 A1 n1 c1 k) (h2 : At w 1 e8 A2 n2 c2 v) (h3 : At w 1 e8 A3 n c3 b) (h4 : At w 2 e2 A4 n4 c4 l) :
    Calls Try.prog 19 #[schV m c s, .slice A1 n1 c1, .slice A2 n2 c2, .slice A3 n c3, .slice A4 n4 c4] w fun e w' => e = .returned (.bool true) ∧ Ext w w' := by
  by_cases hF : codF m c s n1 n2 n l = 0
  · exact back_ok h1 h2 h3 h4 hF
  · exact back_bad h1 h2 h3 h4 hF

set_option maxRecDepth 100000 in
theorem keyProtectsComeBack_lifted (os : Os) (started : os.Started) (H : Type) (enc : TypeId × Value → H) :
    ReturnsInHanded {} Try.checked os 19 .any (Rows.keyProtectsComeBackSpec.pre6 enc Try.prog Try.f19 Rows.keyProtectsComeBackRow.domain false) (Rows.keyProtectsComeBackSpec.post enc Try.prog Try.f19 false true false false) := by
  refine returnsInHanded_of_change_sized (C := Try.checked) Try.own started (by kernel_rfl) Try.func19
    (ChangeSpec.witness6 (enc := enc) (C := Try.checked) false ⟨#[], #[.agg #[.int .i64 1, .int .i64 0, .int .i64 0], .slice none 0 0, .slice none 0 0, .slice none 0 0, .slice none 0 0], []⟩ 8 (by kernel_rfl) (by kernel_rfl) (by kernel_rfl) (by kernel_rfl)) ?_
  intro W base args ds gs before hval0 hW _ _ _
  have hval : ∀ (j : Nat) t v, Try.f19.params[j]? = some t → args[j]? = some v → Value.okWide Try.prog W .any base t v := hval0
  have hW' := hW
  obtain ⟨p, q, hA0, hV, rfl, _, _⟩ := hW
  have hA : DataW.TrodAll enc Try.prog W 0 (fun _ => true) true Try.f19.params.toList args.toList ds p := hA0
  rw [Try.params19] at hA hval
  obtain ⟨v0, v1, v2, v3, v4, d0, d1, d2, d3, d4, p0, p1, p2, p3, p4, rfl, rfl, rfl, h0, h1, h2, h3, h4⟩ := trodAll_five hA
  obtain ⟨m0, c0, s0, rfl, _, _, _⟩ := open_scheme (hval 0 57 v0 rfl rfl) h0
  obtain ⟨A1, n1, c1, l1, rfl, hAt1, _⟩ := open_bytes (hval 1 22 v1 rfl rfl) h1
  obtain ⟨A2, n2, c2, l2, rfl, hAt2, _⟩ := open_bytes (hval 2 22 v2 rfl rfl) h2
  obtain ⟨A3, n3, c3, l3, rfl, hAt3, _⟩ := open_bytes (hval 3 22 v3 rfl rfl) h3
  obtain ⟨A4, n4, k4, l4, rfl, hAt4, _, _⟩ := open_subs (hval 4 44 v4 rfl rfl) h4
  refine (back_any hAt1 hAt2 hAt3 hAt4).mono fun e W' ⟨he, hE⟩ => ?_
  subst he
  exact ⟨_, rfl, law_post Try.laidOut Try.underlying4 hW' rfl rfl rfl (by kernel_rfl) hE⟩
theorem keyProtectsComeBack_closed : joinedFacts Try.prog 19 Try.f19 Rows.keyProtectsComeBackSpec Rows.keyProtectsComeBackRow = true :=
  joined_of Try.laidOut Try.mapsRowed Try.plainKeys Try.stopsHeard Try.stopsNone Try.knobsNone Try.mayEnter Try.makeCut Try.liftsFinal rfl rfl rfl (by as_aux_lemma => kernel_rfl)
    (by as_aux_lemma => kernel_rfl) (by as_aux_lemma => kernel_rfl) (by as_aux_lemma => kernel_rfl) (by as_aux_lemma => kernel_rfl) (by as_aux_lemma => kernel_rfl) (by as_aux_lemma => kernel_rfl) (by as_aux_lemma => kernel_rfl) (by as_aux_lemma => kernel_rfl) (by as_aux_lemma => kernel_rfl) (by as_aux_lemma => kernel_rfl)
theorem keyProtectsComeBack_holds : Rows.KeyProtectsComeBackSaid :=
  OpenClaim.holds_of_wide 19 Try.f19 rfl rfl rfl rfl rfl rfl rfl ⟨rfl, rfl, rfl, rfl, rfl⟩ rfl rfl rfl rfl rfl (by as_aux_lemma => kernel_rfl) Try.func19 keyProtectsComeBack_closed
    (of_decide_eq_true (by kernel_rfl)) (by unfold Func.isWrapper; first | (rw [if_pos (by decide +kernel)]; kernel_rfl) | (rw [if_neg (by decide +kernel)]; exact ⟨rfl, rfl⟩))
    (fun os started H enc _ => keyProtectsComeBack_lifted os started H enc)
#print axioms keyProtectsComeBack_holds
end Go.Proofs.Ytifmgngmkajahaa
