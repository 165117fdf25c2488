/- Several texts in one: Walks: words, wordBytes. Conditions: lengths as stated; Walks: encrypt, decrypt, xor. Conditions: lengths as stated; Walks: decrypt, xor. Conditions: lengths as stated; Walks: xor of the program. Conditions: lengths as stated; Walks of the reference's small functions: number, mixed, bytesOf, xored; slices.Clone of bytes. Conditions: lengths as stated; Walks of the reference's bytesOf and xored: lists that the call makes. Conditions: lengths as stated. -/
import Derived.Test.YtkbmgakehlmcnaaMtq05
import Derived.Deep.RegionHeld3
import Derived.Deep.RegionWith
import Derived.StillTailTactics
import Derived.Handy
namespace Go.Proofs.Ytkbmgakehlmcnaa
open Go.RowKit Kc
set_option maxHeartbeats 400000 in
theorem words_any {A : Option Addr} {n c : Nat} {l : List UInt8} {w : World} (h : At w 1 e8 A n c l) (hn : 16 ≤ n) :
    Calls Try.prog 60 #[.slice A n c] w fun e w' => e = .returned (.agg #[.int .u32 ((keyAt l 0).toNat : Int), .int .u32 ((keyAt l 1).toNat : Int), .int .u32 ((keyAt l 2).toNat : Int), .int .u32 ((keyAt l 3).toNat : Int)]) ∧ Ext w w' := by
  have hbd := h.boundc
  have hle := h.le
  obtain ⟨b, off, rfl, _⟩ := h.addr (by omega)
  have h4 := h.cutAt (k := 4) (by omega) (by omega)
  have h8 := h.cutAt (k := 8) (by omega) (by omega)
  have h12 := h.cutAt (k := 12) (by omega) (by omega)
  simp only [Nat.mul_one] at h4 h8 h12
  have i4 : (4:Int) ≤ (n:Int) := by omega
  have i8 : (8:Int) ≤ (n:Int) := by omega
  have i12 : (12:Int) ≤ (n:Int) := by omega
  have j4 : ¬ c = 4 := by omega
  have j8 : ¬ c = 8 := by omega
  have j12 : ¬ c = 12 := by omega
  have H := hide h; have H4 := hide h4; have H8 := hide h8; have H12 := hide h12
  clear h h4 h8 h12
  go_enter Try.func60, Try.ntmps60
  go_wp2_with fail
  go_region_held3 (fun _ => True) (first | trivial) (first
    | ((go_at_call 61; with_reducible refine (word_any (H.out.ext (by repeat' (first | (with_reducible first | exact Below.refl _ _ | assumption | refine below_drewN ?_ _ | refine Below.drew ?_ | refine ext_alloc ?_ _ | refine Below.setCell ?_ ?_ _) | go_size))) (by omega)).mono ?_); rintro e w' ⟨rfl, nq, rfl⟩)
    | ((go_at_call 61; with_reducible refine (word_any (H4.out.ext (by repeat' (first | (with_reducible first | exact Below.refl _ _ | assumption | refine below_drewN ?_ _ | refine Below.drew ?_ | refine ext_alloc ?_ _ | refine Below.setCell ?_ ?_ _) | go_size))) (by omega)).mono ?_); rintro e w' ⟨rfl, nq, rfl⟩)
    | ((go_at_call 61; with_reducible refine (word_any (H8.out.ext (by repeat' (first | (with_reducible first | exact Below.refl _ _ | assumption | refine below_drewN ?_ _ | refine Below.drew ?_ | refine ext_alloc ?_ _ | refine Below.setCell ?_ ?_ _) | go_size))) (by omega)).mono ?_); rintro e w' ⟨rfl, nq, rfl⟩)
    | ((go_at_call 61; with_reducible refine (word_any (H12.out.ext (by repeat' (first | (with_reducible first | exact Below.refl _ _ | assumption | refine below_drewN ?_ _ | refine Below.drew ?_ | refine ext_alloc ?_ _ | refine Below.setCell ?_ ?_ _) | go_size))) (by omega)).mono ?_); rintro e w' ⟨rfl, nq, rfl⟩))
  go_wp2
  go_returns
  exact ⟨rfl, (by repeat' (first | (with_reducible first | exact Below.refl _ _ | assumption | refine below_drewN ?_ _ | refine Below.drew ?_ | refine ext_alloc ?_ _ | refine Below.setCell ?_ ?_ _) | go_size))⟩
abbrev agg8 (l : List UInt8) : Value := .agg #[B8 (l.getD 0 0), B8 (l.getD 1 0), B8 (l.getD 2 0), B8 (l.getD 3 0), B8 (l.getD 4 0), B8 (l.getD 5 0), B8 (l.getD 6 0), B8 (l.getD 7 0)]
theorem Blk.set8 {w : World} {g : Nat} {t : TypeId} {c0 c1 c2 c3 c4 c5 c6 c7 : Value} (h : Blk w g t #[c0, c1, c2, c3, c4, c5, c6, c7]) (v0 v1 v2 v3 v4 v5 v6 v7 : Value) :
    Blk ((((((((w.setCell ⟨g, 0, none⟩ v0).setCell ⟨g, 1, none⟩ v1).setCell ⟨g, 2, none⟩ v2).setCell ⟨g, 3, none⟩ v3).setCell ⟨g, 4, none⟩ v4).setCell ⟨g, 5, none⟩ v5).setCell ⟨g, 6, none⟩ v6).setCell ⟨g, 7, none⟩ v7) g t #[v0, v1, v2, v3, v4, v5, v6, v7] := by
  have h8 := (((((((h.set_ 0 v0).set_ 1 v1).set_ 2 v2).set_ 3 v3).set_ 4 v4).set_ 5 v5).set_ 6 v6).set_ 7 v7
  simpa only [List.setIfInBounds_toArray, List.set_cons_zero, List.set_cons_succ] using h8
theorem Try.size90 : (Try.prog.info? 90).map (·.size) = some 8 := by kernel_rfl
theorem ret8 {fn : Func} {p : Tmp} (h : fn.results = #[.cell p 90]) (tmps : Array Value) {w : World} {g : Nat} {l : List UInt8}
    (hp : tmps.getD p undef = .pointer (some ⟨g, 0, none⟩)) (hg : Blk w g 90 #[B8 (l.getD 0 0), B8 (l.getD 1 0), B8 (l.getD 2 0), B8 (l.getD 3 0), B8 (l.getD 4 0), B8 (l.getD 5 0), B8 (l.getD 6 0), B8 (l.getD 7 0)]) :
    (results fn tmps).run Try.prog w = .ok (agg8 l) w := by
  exact results_cell_row h tmps w g _ _ _ _ hp hg Try.underlying90 rfl Try.size90
theorem u8_of32 (x : UInt32) : (x.toNat : Int) % (256 : Int) = ((x.toUInt8).toNat : Int) := by
  rw [UInt32.toNat_toUInt8]; omega
theorem u8_shr (x y : UInt32) (k : Int) (h : (x.toNat : Int) / k = (y.toNat : Int)) : (x.toNat : Int) / k % (256 : Int) = ((y.toUInt8).toNat : Int) := by
  rw [h, u8_of32]
theorem u32_shr24 (a : UInt32) : (a.toNat : Int) / (16777216 : Int) = ((a >>> 24).toNat : Int) := by
  rw [UInt32.toNat_shiftRight]; simp [Nat.shiftRight_eq_div_pow]
theorem u32_shr16 (a : UInt32) : (a.toNat : Int) / (65536 : Int) = ((a >>> 16).toNat : Int) := by
  rw [UInt32.toNat_shiftRight]; simp [Nat.shiftRight_eq_div_pow]
theorem u32_shr8 (a : UInt32) : (a.toNat : Int) / (256 : Int) = ((a >>> 8).toNat : Int) := by
  rw [UInt32.toNat_shiftRight]; simp [Nat.shiftRight_eq_div_pow]
set_option maxHeartbeats 400000 in
theorem wordBytes_any (a b : UInt32) (w : World) :
    Calls Try.prog 31 #[.int .u32 (a.toNat : Int), .int .u32 (b.toNat : Int)] w fun e w' => e = .returned (agg8 (bytes8 a b)) ∧ Ext w w' := by
  go_enter Try.func31, Try.ntmps31
  go_wp2
  go_returns
  refine ⟨ret_val ?_, (by repeat' (first | (with_reducible first | exact Below.refl _ _ | assumption | refine below_drewN ?_ _ | refine Below.drew ?_ | refine ext_alloc ?_ _ | refine Below.setCell ?_ ?_ _) | go_size))⟩
  rw [u8_shr a (a >>> 24) _ (u32_shr24 a), u8_shr a (a >>> 16) _ (u32_shr16 a), u8_shr a (a >>> 8) _ (u32_shr8 a), u8_of32,
    u8_shr b (b >>> 24) _ (u32_shr24 b), u8_shr b (b >>> 16) _ (u32_shr16 b), u8_shr b (b >>> 8) _ (u32_shr8 b), u8_of32]
  rfl
theorem and3 (s : UInt32) : bits .and .u32 (s.toNat : Int) 3 = ((s &&& 3).toNat : Int) := by
  have := u32_and s 3
  simpa using this
theorem u32_shr11' (s : UInt32) : bits .and .u32 ((s.toNat : Int) / (2048 : Int)) 3 = (((s >>> 11) &&& 3).toNat : Int) := by
  rw [u32_shr11]; exact and3 _
theorem encN_step (l : List UInt8) (k : Nat) (hk : k < 16) (a b s : UInt32) :
    encN delta l (16 - k) a b s = encN delta l (16 - (k + 1)) (a + addA l b s) (b + addB l (a + addA l b s) (s + delta)) (s + delta) := by
  rw [show 16 - k = (16 - (k + 1)) + 1 by omega, encN_succ]
theorem and3_lt (s : UInt32) : (s &&& 3).toNat < 4 := by
  have h : (s &&& 3).toNat ≤ 3 := by rw [UInt32.toNat_and]; exact Nat.and_le_right
  omega
def KeyAt (w : World) (g : Nat) (l : List UInt8) : Prop := ∀ i, i < 4 → w.cell? ⟨g, i, none⟩ = some (.int .u32 ((keyAt l i).toNat : Int))
set_option maxHeartbeats 1000000 in
theorem encrypt_any {A1 A2 : Option Addr} {n1 c1 n2 c2 : Nat} {l m : List UInt8} {w : World} (h1 : At w 1 e8 A1 n1 c1 l) (h2 : At w 1 e8 A2 n2 c2 m) (hn1 : 16 ≤ n1) (hn2 : 8 ≤ n2) :
    Calls Try.prog 32 #[.slice A1 n1 c1, .slice A2 n2 c2] w fun e w' => e = .returned (agg8 (encB l m)) ∧ Ext w w' := by
  have hbd := h2.boundc
  have hle := h2.le
  obtain ⟨b, off, rfl, _⟩ := h2.addr (by omega)
  have h4 := h2.cutAt (k := 4) (by omega) (by omega)
  simp only [Nat.mul_one] at h4
  have i4 : (4:Int) ≤ (n2:Int) := by omega
  have j4 : ¬ c2 = 4 := by omega
  have H1 := hide h1; have H2 := hide h2; have H4 := hide h4
  clear h1 h2 h4
  go_enter Try.func32, Try.ntmps32
  go_wp2_with ((go_at_call 60; with_reducible refine (words_any (H1.out.ext (by repeat' (first | (with_reducible first | exact Below.refl _ _ | assumption | refine below_drewN ?_ _ | refine Below.drew ?_ | refine ext_alloc ?_ _ | refine Below.setCell ?_ ?_ _) | go_size))) (by omega)).mono ?_); rintro e w1 ⟨rfl, e1⟩; have e1' : Ext w w1 := Ext.trans (by repeat' (first | (with_reducible first | exact Below.refl _ _ | assumption | refine below_drewN ?_ _ | refine Below.drew ?_ | refine ext_alloc ?_ _ | refine Below.setCell ?_ ?_ _) | go_size)) e1)
  have B1 : Blk w1 w.heap.size 90 #[.int .u8 0, .int .u8 0, .int .u8 0, .int .u8 0, .int .u8 0, .int .u8 0, .int .u8 0, .int .u8 0] := Blk.ext (Blk.new w _ _) e1
  have s1 : w.heap.size < w1.heap.size := B1.lt
  have HB1 := hide B1
  have E1 := hide e1'
  clear B1 e1 e1'
  go_quiet (first
    | ((go_at_call 61; with_reducible refine Calls.quiet_of (word_any (H2.out.ext (Ext.trans E1.out (by repeat' (first | (with_reducible first | exact Below.refl _ _ | assumption | refine below_drewN ?_ _ | refine Below.drew ?_ | refine ext_alloc ?_ _ | refine Below.setCell ?_ ?_ _) | go_size)))) (by omega))))
    | ((go_at_call 61; with_reducible refine Calls.quiet_of (word_any (H4.out.ext (Ext.trans E1.out (by repeat' (first | (with_reducible first | exact Below.refl _ _ | assumption | refine below_drewN ?_ _ | refine Below.drew ?_ | refine ext_alloc ?_ _ | refine Below.setCell ?_ ?_ _) | go_size)))) (by omega)))))
  go_wp2_with fail
  have R0 : encN delta l 16 (wordL m) (wordL (m.drop 4)) 0 = encN delta l 16 (wordL m) (wordL (m.drop 4)) 0 := rfl
  have K0 : KeyAt ((w1.alloc (Obj.cells #[Value.int IntKind.u32 ↑(keyAt l 0).toNat, Value.int IntKind.u32 ↑(keyAt l 1).toNat, Value.int IntKind.u32 ↑(keyAt l 2).toNat, Value.int IntKind.u32 ↑(keyAt l 3).toNat] 130)).drewN nq) w1.heap.size l := by
    have B := (Blk.new w1 130 #[Value.int IntKind.u32 ↑(keyAt l 0).toNat, Value.int IntKind.u32 ↑(keyAt l 1).toNat, Value.int IntKind.u32 ↑(keyAt l 2).toNat, Value.int IntKind.u32 ↑(keyAt l 3).toNat]).drewN nq
    intro i hi
    rw [B.cell]
    match i, hi with
    | 0, _ => rfl
    | 1, _ => rfl
    | 2, _ => rfl
    | 3, _ => rfl
  have B0 := ((HB1.out.alloc (Obj.cells #[Value.int IntKind.u32 ↑(keyAt l 0).toNat, Value.int IntKind.u32 ↑(keyAt l 1).toNat, Value.int IntKind.u32 ↑(keyAt l 2).toNat, Value.int IntKind.u32 ↑(keyAt l 3).toNat] 130)).drewN nq)
  have X0 : Ext w ((w1.alloc (Obj.cells #[Value.int IntKind.u32 ↑(keyAt l 0).toNat, Value.int IntKind.u32 ↑(keyAt l 1).toNat, Value.int IntKind.u32 ↑(keyAt l 2).toNat, Value.int IntKind.u32 ↑(keyAt l 3).toNat] 130)).drewN nq) := Ext.trans E1.out (by repeat' (first | (with_reducible first | exact Below.refl _ _ | assumption | refine below_drewN ?_ _ | refine Below.drew ?_ | refine ext_alloc ?_ _ | refine Below.setCell ?_ ?_ _) | go_size))
  have HR0 := hide R0; have HK0 := hide K0; have HB0 := hide B0; have HX0 := hide X0
  clear R0 K0 B0 X0
  generalize hgk : w1.heap.size = gk at *
  go_loopw [6, 7, 8, 16] (fun ra rb rs ri wr => ∃ (k : Nat) (a b s : UInt32), k ≤ 16 ∧ ra = .int .u32 (a.toNat : Int) ∧ rb = .int .u32 (b.toNat : Int) ∧ rs = .int .u32 (s.toNat : Int) ∧ ri = .int .i64 k ∧
      Hid (encN delta l (16 - k) a b s = encN delta l 16 (wordL m) (wordL (m.drop 4)) 0) ∧ Hid (KeyAt wr gk l) ∧
      Hid (Blk wr w.heap.size 90 #[.int .u8 0, .int .u8 0, .int .u8 0, .int .u8 0, .int .u8 0, .int .u8 0, .int .u8 0, .int .u8 0]) ∧ Hid (Ext w wr)) (fun _ _ _ i _ => 16 - (intOf i).toNat)
  case atStart => exact ⟨0, wordL m, wordL (m.drop 4), 0, by omega, rfl, rfl, rfl, rfl, HR0, HK0, HB0, HX0⟩
  case round =>
    obtain ⟨k, a, b, s, hk, rfl, rfl, rfl, rfl, HR, HK, HB, HX⟩ := hrel
    clear HR0 HK0 HB0 HX0 HB1 E1
    have HG := hide hgk
    clear hgk
    by_cases hlt : k < 16
    · obtain ⟨i, hi⟩ : ∃ i, i = (s &&& 3).toNat := ⟨_, rfl⟩
      have i4 : i < 4 := by rw [hi]; exact and3_lt s
      have b1 : bits .and .u32 (s.toNat : Int) 3 = (i : Int) := by rw [hi]; exact and3 s
      have c1 : wr.cell? ⟨gk, i, none⟩ = some (.int .u32 ((keyAt l i).toNat : Int)) := HK.out i i4
      have i5 : (i : Int) < 4 := by omega
      obtain ⟨t, ht⟩ : ∃ t, t = s + keyAt l i := ⟨_, rfl⟩
      have t1 : ((s.toNat : Int) + ((keyAt l i).toNat : Int)) % 4294967296 = (t.toNat : Int) := by rw [ht]; exact u32_add _ _
      obtain ⟨q, hq⟩ : ∃ q, q = mixU b ^^^ t := ⟨_, rfl⟩
      have q1 : bits .xor .u32 ((mixU b).toNat : Int) (t.toNat : Int) = (q.toNat : Int) := by rw [hq]; exact u32_xor _ _
      obtain ⟨a', ha'⟩ : ∃ a', a' = a + q := ⟨_, rfl⟩
      have a1 : ((a.toNat : Int) + (q.toNat : Int)) % 4294967296 = (a'.toNat : Int) := by rw [ha']; exact u32_add _ _
      obtain ⟨s', hs'⟩ : ∃ s', s' = s + delta := ⟨_, rfl⟩
      have d1 : ((s.toNat : Int) + 2654435769) % 4294967296 = (s'.toNat : Int) := by rw [hs']; have h := u32_add s delta; rw [delta_nat] at h; exact h
      obtain ⟨i', hi'⟩ : ∃ i', i' = ((s' >>> 11) &&& 3).toNat := ⟨_, rfl⟩
      have i4' : i' < 4 := by rw [hi']; exact and3_lt _
      have b1' : bits .and .u32 ((s'.toNat : Int) / 2048) 3 = (i' : Int) := by rw [hi']; exact u32_shr11' _
      have c1' : wr.cell? ⟨gk, i', none⟩ = some (.int .u32 ((keyAt l i').toNat : Int)) := HK.out i' i4'
      have i5' : (i' : Int) < 4 := by omega
      obtain ⟨t', ht'⟩ : ∃ t, t = s' + keyAt l i' := ⟨_, rfl⟩
      have t1' : ((s'.toNat : Int) + ((keyAt l i').toNat : Int)) % 4294967296 = (t'.toNat : Int) := by rw [ht']; exact u32_add _ _
      obtain ⟨q', hq'⟩ : ∃ q, q = mixU a' ^^^ t' := ⟨_, rfl⟩
      have q1' : bits .xor .u32 ((mixU a').toNat : Int) (t'.toNat : Int) = (q'.toNat : Int) := by rw [hq']; exact u32_xor _ _
      obtain ⟨b', hb'⟩ : ∃ b', b' = b + q' := ⟨_, rfl⟩
      have a1' : ((b.toNat : Int) + (q'.toNat : Int)) % 4294967296 = (b'.toNat : Int) := by rw [hb']; exact u32_add _ _
      have hN : encN delta l (16 - k) a b s = encN delta l (16 - (k + 1)) a' b' s' := by
        rw [encN_step l k hlt a b s, hb', hq', ht', hi', ha', hq, ht, hi, hs']; simp only [addA, addB]
      have HN := hide hN
      clear hi ht hq ha' hs' hi' ht' hq' hb' hN
      go_wp2_with fail
      go_quiet ((go_at_call 62; exact quiet_left (mix_any _ _)))
      go_wp2_with fail
      go_quiet ((go_at_call 62; exact quiet_add_left (mix_any _ _)))
      go_wp2
      go_roundw
      case rel =>
        exact ⟨k + 1, a', b', s', by omega, by first | exact int_val a1 | with_reducible rfl, by first | exact int_val a1' | with_reducible rfl, by first | exact int_val d1 | with_reducible rfl, by go_num, HN.out.symm.trans HR.out, HK.out, HB.out, below_drewN HX.out _⟩
      case measure => simp [intOf]; omega
    · have hk16 : k = 16 := by omega
      subst hk16
      have hr : encB l m = bytes8 a b := by
        have h := HR.out
        rw [show 16 - 16 = 0 by rfl, encN] at h
        unfold encB
        rw [← h]
      have HRR := hide hr
      clear hr HR
      go_wp2_with ((go_at_call 31; with_reducible refine (wordBytes_any _ _ _).mono ?_); rintro e w2 ⟨rfl, e2⟩; have B2 := HB.out.ext e2; have fz := B2.frozen; have q0 := B2.cell 0; have q1 := B2.cell 1; have q2 := B2.cell 2; have q3 := B2.cell 3; have q4 := B2.cell 4; have q5 := B2.cell 5; have q6 := B2.cell 6; have q7 := B2.cell 7; have X2 := hide (Ext.trans HX.out e2); have HB2 := hide B2; clear B2 e2; simp only [List.getElem?_toArray, List.getElem?_cons_zero, List.getElem?_cons_succ] at q0 q1 q2 q3 q4 q5 q6 q7)
      refine bodyPost_ret (ret8 (l := bytes8 a b) Try.results32 _ rfl (HB2.out.set8 _ _ _ _ _ _ _ _)) rfl ⟨?_, ?_⟩
      · rw [HRR.out]
      · have X3 := X2.out
        exact (by repeat' (first | (with_reducible first | exact Below.refl _ _ | assumption | refine below_drewN ?_ _ | refine Below.drew ?_ | refine ext_alloc ?_ _ | refine Below.setCell ?_ ?_ _) | go_size))
theorem decN_step (l : List UInt8) (k : Nat) (hk : k < 16) (a b s : UInt32) :
    decN delta l (16 - k) a b s = decN delta l (16 - (k + 1)) (a - addA l (b - addB l a s) (s - delta)) (b - addB l a s) (s - delta) := by
  rw [show 16 - k = (16 - (k + 1)) + 1 by omega, decN_succ]
set_option maxHeartbeats 1000000 in
theorem decrypt_any {A1 A2 : Option Addr} {n1 c1 n2 c2 : Nat} {l m : List UInt8} {w : World} (h1 : At w 1 e8 A1 n1 c1 l) (h2 : At w 1 e8 A2 n2 c2 m) (hn1 : 16 ≤ n1) (hn2 : 8 ≤ n2) :
    Calls Try.prog 59 #[.slice A1 n1 c1, .slice A2 n2 c2] w fun e w' => e = .returned (agg8 (decB l m)) ∧ Ext w w' := by
  have hbd := h2.boundc
  have hle := h2.le
  obtain ⟨b, off, rfl, _⟩ := h2.addr (by omega)
  have h4 := h2.cutAt (k := 4) (by omega) (by omega)
  simp only [Nat.mul_one] at h4
  have i4 : (4:Int) ≤ (n2:Int) := by omega
  have j4 : ¬ c2 = 4 := by omega
  have H1 := hide h1; have H2 := hide h2; have H4 := hide h4
  clear h1 h2 h4
  go_enter Try.func59, Try.ntmps59
  go_wp2_with ((go_at_call 60; with_reducible refine (words_any (H1.out.ext (by repeat' (first | (with_reducible first | exact Below.refl _ _ | assumption | refine below_drewN ?_ _ | refine Below.drew ?_ | refine ext_alloc ?_ _ | refine Below.setCell ?_ ?_ _) | go_size))) (by omega)).mono ?_); rintro e w1 ⟨rfl, e1⟩; have e1' : Ext w w1 := Ext.trans (by repeat' (first | (with_reducible first | exact Below.refl _ _ | assumption | refine below_drewN ?_ _ | refine Below.drew ?_ | refine ext_alloc ?_ _ | refine Below.setCell ?_ ?_ _) | go_size)) e1)
  have B1 : Blk w1 w.heap.size 90 #[.int .u8 0, .int .u8 0, .int .u8 0, .int .u8 0, .int .u8 0, .int .u8 0, .int .u8 0, .int .u8 0] := Blk.ext (Blk.new w _ _) e1
  have s1 : w.heap.size < w1.heap.size := B1.lt
  have HB1 := hide B1
  have E1 := hide e1'
  clear B1 e1 e1'
  go_quiet (first
    | ((go_at_call 61; with_reducible refine Calls.quiet_of (word_any (H2.out.ext (Ext.trans E1.out (by repeat' (first | (with_reducible first | exact Below.refl _ _ | assumption | refine below_drewN ?_ _ | refine Below.drew ?_ | refine ext_alloc ?_ _ | refine Below.setCell ?_ ?_ _) | go_size)))) (by omega))))
    | ((go_at_call 61; with_reducible refine Calls.quiet_of (word_any (H4.out.ext (Ext.trans E1.out (by repeat' (first | (with_reducible first | exact Below.refl _ _ | assumption | refine below_drewN ?_ _ | refine Below.drew ?_ | refine ext_alloc ?_ _ | refine Below.setCell ?_ ?_ _) | go_size)))) (by omega)))))
  go_wp2_with fail
  have K0 : KeyAt ((w1.alloc (Obj.cells #[Value.int IntKind.u32 ↑(keyAt l 0).toNat, Value.int IntKind.u32 ↑(keyAt l 1).toNat, Value.int IntKind.u32 ↑(keyAt l 2).toNat, Value.int IntKind.u32 ↑(keyAt l 3).toNat] 130)).drewN nq) w1.heap.size l := by
    have B := (Blk.new w1 130 #[Value.int IntKind.u32 ↑(keyAt l 0).toNat, Value.int IntKind.u32 ↑(keyAt l 1).toNat, Value.int IntKind.u32 ↑(keyAt l 2).toNat, Value.int IntKind.u32 ↑(keyAt l 3).toNat]).drewN nq
    intro i hi
    rw [B.cell]
    match i, hi with
    | 0, _ => rfl
    | 1, _ => rfl
    | 2, _ => rfl
    | 3, _ => rfl
  have B0 := ((HB1.out.alloc (Obj.cells #[Value.int IntKind.u32 ↑(keyAt l 0).toNat, Value.int IntKind.u32 ↑(keyAt l 1).toNat, Value.int IntKind.u32 ↑(keyAt l 2).toNat, Value.int IntKind.u32 ↑(keyAt l 3).toNat] 130)).drewN nq)
  have X0 : Ext w ((w1.alloc (Obj.cells #[Value.int IntKind.u32 ↑(keyAt l 0).toNat, Value.int IntKind.u32 ↑(keyAt l 1).toNat, Value.int IntKind.u32 ↑(keyAt l 2).toNat, Value.int IntKind.u32 ↑(keyAt l 3).toNat] 130)).drewN nq) := Ext.trans E1.out (by repeat' (first | (with_reducible first | exact Below.refl _ _ | assumption | refine below_drewN ?_ _ | refine Below.drew ?_ | refine ext_alloc ?_ _ | refine Below.setCell ?_ ?_ _) | go_size))
  have HK0 := hide K0; have HB0 := hide B0; have HX0 := hide X0
  clear K0 B0 X0
  generalize hgk : w1.heap.size = gk at *
  go_loop [8, 16] (fun rs ri => ∃ (k : Nat) (s : UInt32), k ≤ 16 ∧ rs = .int .u32 (s.toNat : Int) ∧ ri = .int .i64 k ∧ Hid (s = sumN delta k)) (fun _ i => 16 - (intOf i).toNat)
  case atStart => exact ⟨0, 0, by omega, rfl, rfl, rfl⟩
  case round =>
    obtain ⟨k, s, hk, rfl, rfl, HS⟩ := hrel
    by_cases hlt : k < 16
    · obtain ⟨s', hs'⟩ : ∃ s', s' = s + delta := ⟨_, rfl⟩
      have d1 : ((s.toNat : Int) + 2654435769) % 4294967296 = (s'.toNat : Int) := by rw [hs']; have h := u32_add s delta; rw [delta_nat] at h; exact h
      have HS' := hide hs'
      clear hs'
      go_wp2
      go_round
      case rel => exact ⟨k + 1, s', by omega, by first | exact int_val d1 | with_reducible rfl, by go_num, hide (by rw [HS'.out, HS.out, sumN])⟩
      case measure => simp [intOf]; omega
    · have hk16 : k = 16 := by omega
      subst hk16
      have HS16 : Hid (s = sumN delta 16) := HS
      clear HS hlt hk
      go_wp2_with fail
      go_loopw [6, 7, 8, 21] (fun ra rb rs ri wr => ∃ (k : Nat) (a b s : UInt32), k ≤ 16 ∧ ra = .int .u32 (a.toNat : Int) ∧ rb = .int .u32 (b.toNat : Int) ∧ rs = .int .u32 (s.toNat : Int) ∧ ri = .int .i64 k ∧
          Hid (decN delta l (16 - k) a b s = decN delta l 16 (wordL m) (wordL (m.drop 4)) (sumN delta 16)) ∧ Hid (KeyAt wr gk l) ∧
          Hid (Blk wr w.heap.size 90 #[.int .u8 0, .int .u8 0, .int .u8 0, .int .u8 0, .int .u8 0, .int .u8 0, .int .u8 0, .int .u8 0]) ∧ Hid (Ext w wr)) (fun _ _ _ i _ => 16 - (intOf i).toNat)
      case atStart => exact ⟨0, wordL m, wordL (m.drop 4), s, by omega, rfl, rfl, rfl, rfl, hide (by rw [HS16.out]), HK0, HB0, HX0⟩
      case round =>
        obtain ⟨k, a, b, s, hk, rfl, rfl, rfl, rfl, HR, HK, HB, HX⟩ := hrel
        clear HK0 HB0 HX0 HB1 E1 HS16
        have HG := hide hgk
        clear hgk
        by_cases hlt : k < 16
        · obtain ⟨i, hi⟩ : ∃ i, i = ((s >>> 11) &&& 3).toNat := ⟨_, rfl⟩
          have i4 : i < 4 := by rw [hi]; exact and3_lt _
          have b1 : bits .and .u32 ((s.toNat : Int) / 2048) 3 = (i : Int) := by rw [hi]; exact u32_shr11' s
          have c1 : wr.cell? ⟨gk, i, none⟩ = some (.int .u32 ((keyAt l i).toNat : Int)) := HK.out i i4
          have i5 : (i : Int) < 4 := by omega
          obtain ⟨t, ht⟩ : ∃ t, t = s + keyAt l i := ⟨_, rfl⟩
          have t1 : ((s.toNat : Int) + ((keyAt l i).toNat : Int)) % 4294967296 = (t.toNat : Int) := by rw [ht]; exact u32_add _ _
          obtain ⟨q, hq⟩ : ∃ q, q = mixU a ^^^ t := ⟨_, rfl⟩
          have q1 : bits .xor .u32 ((mixU a).toNat : Int) (t.toNat : Int) = (q.toNat : Int) := by rw [hq]; exact u32_xor _ _
          obtain ⟨b', hb'⟩ : ∃ b', b' = b - q := ⟨_, rfl⟩
          have a1 : ((b.toNat : Int) - (q.toNat : Int)) % 4294967296 = (b'.toNat : Int) := by rw [hb']; exact u32_sub _ _
          obtain ⟨s', hs'⟩ : ∃ s', s' = s - delta := ⟨_, rfl⟩
          have d1 : ((s.toNat : Int) - 2654435769) % 4294967296 = (s'.toNat : Int) := by rw [hs']; have h := u32_sub s delta; rw [delta_nat] at h; exact h
          obtain ⟨i', hi'⟩ : ∃ i', i' = (s' &&& 3).toNat := ⟨_, rfl⟩
          have i4' : i' < 4 := by rw [hi']; exact and3_lt _
          have b1' : bits .and .u32 (s'.toNat : Int) 3 = (i' : Int) := by rw [hi']; exact and3 _
          have c1' : wr.cell? ⟨gk, i', none⟩ = some (.int .u32 ((keyAt l i').toNat : Int)) := HK.out i' i4'
          have i5' : (i' : Int) < 4 := by omega
          obtain ⟨t', ht'⟩ : ∃ t, t = s' + keyAt l i' := ⟨_, rfl⟩
          have t1' : ((s'.toNat : Int) + ((keyAt l i').toNat : Int)) % 4294967296 = (t'.toNat : Int) := by rw [ht']; exact u32_add _ _
          obtain ⟨q', hq'⟩ : ∃ q, q = mixU b' ^^^ t' := ⟨_, rfl⟩
          have q1' : bits .xor .u32 ((mixU b').toNat : Int) (t'.toNat : Int) = (q'.toNat : Int) := by rw [hq']; exact u32_xor _ _
          obtain ⟨a', ha'⟩ : ∃ a', a' = a - q' := ⟨_, rfl⟩
          have a1' : ((a.toNat : Int) - (q'.toNat : Int)) % 4294967296 = (a'.toNat : Int) := by rw [ha']; exact u32_sub _ _
          have hN : decN delta l (16 - k) a b s = decN delta l (16 - (k + 1)) a' b' s' := by
            rw [decN_step l k hlt a b s, ha', hq', ht', hi', hb', hq, ht, hi, hs']; simp only [addA, addB]
          have HN := hide hN
          clear hi ht hq ha' hs' hi' ht' hq' hb' hN
          go_wp2_with fail
          go_quiet ((go_at_call 62; exact quiet_left (mix_any _ _)))
          go_wp2_with fail
          go_quiet ((go_at_call 62; exact quiet_add_left (mix_any _ _)))
          go_wp2
          go_roundw
          case rel =>
            exact ⟨k + 1, a', b', s', by omega, by first | exact int_val a1' | with_reducible rfl, by first | exact int_val a1 | with_reducible rfl, by first | exact int_val d1 | with_reducible rfl, by go_num, HN.out.symm.trans HR.out, HK.out, HB.out, below_drewN HX.out _⟩
          case measure => simp [intOf]; omega
        · have hk16 : k = 16 := by omega
          subst hk16
          have hr : decB l m = bytes8 a b := by
            have h := HR.out
            rw [show 16 - 16 = 0 by rfl, decN] at h
            unfold decB
            rw [← h]
          have HRR := hide hr
          clear hr HR
          go_wp2_with ((go_at_call 31; with_reducible refine (wordBytes_any _ _ _).mono ?_); rintro e w2 ⟨rfl, e2⟩; have B2 := HB.out.ext e2; have fz := B2.frozen; have q0 := B2.cell 0; have q1 := B2.cell 1; have q2 := B2.cell 2; have q3 := B2.cell 3; have q4 := B2.cell 4; have q5 := B2.cell 5; have q6 := B2.cell 6; have q7 := B2.cell 7; have X2 := hide (Ext.trans HX.out e2); have HB2 := hide B2; clear B2 e2; simp only [List.getElem?_toArray, List.getElem?_cons_zero, List.getElem?_cons_succ] at q0 q1 q2 q3 q4 q5 q6 q7)
          refine bodyPost_ret (ret8 (l := bytes8 a b) Try.results59 _ rfl (HB2.out.set8 _ _ _ _ _ _ _ _)) rfl ⟨?_, ?_⟩
          · rw [HRR.out]
          · have X3 := X2.out
            exact (by repeat' (first | (with_reducible first | exact Below.refl _ _ | assumption | refine below_drewN ?_ _ | refine Below.drew ?_ | refine ext_alloc ?_ _ | refine Below.setCell ?_ ?_ _) | go_size))
theorem At.byteK {w : World} {b off n c : Nat} {l : List UInt8} (h : At w 1 e8 (some ⟨b, off, none⟩) n c l) {k : Nat} (hk : k < n) : w.cell? ⟨b, off + k, none⟩ = some (B8 (l.getD k 0)) := by
  have hl := h.len
  obtain ⟨b', off', e, hc⟩ := h.cells k _ (List.getElem?_eq_getElem (by omega))
  injection e with e
  injection e with e1 e2
  subst e1 e2
  have := hc 0 _ rfl
  rw [show l.getD k 0 = l[k]'(by omega) by simp [List.getD, show k < l.length by omega]]
  simpa using this
theorem u8_xor' (a b : UInt8) : bits .xor .u8 (a.toNat : Int) (b.toNat : Int) = ((a ^^^ b).toNat : Int) := by
  rw [u8_xor_nat _ _ (u8lt a) (u8lt b), UInt8.toNat_xor]
def xor8 (l m : List UInt8) : List UInt8 := (List.range 8).map fun j => l.getD j 0 ^^^ m.getD j 0
def xc (l m : List UInt8) (k : Nat) : Array Value := ((List.range 8).map fun j => if j < k then B8 ((xor8 l m).getD j 0) else .int .u8 0).toArray
theorem xc_set (l m : List UInt8) (k : Nat) (hk : k < 8) : (xc l m k).setIfInBounds k (B8 (l.getD k 0 ^^^ m.getD k 0)) = xc l m (k + 1) := by
  match k, hk with
  | 0, _ | 1, _ | 2, _ | 3, _ | 4, _ | 5, _ | 6, _ | 7, _ => rfl
theorem xc_get (l m : List UInt8) (k : Nat) (hk : k < 8) : (xc l m k)[k]? = some (.int .u8 0) := by
  match k, hk with
  | 0, _ | 1, _ | 2, _ | 3, _ | 4, _ | 5, _ | 6, _ | 7, _ => rfl
theorem u8_val (l m : List UInt8) (k : Nat) : Value.int .u8 (bits .xor .u8 ((l.getD k 0).toNat : Int) ((m.getD k 0).toNat : Int)) = B8 (l.getD k 0 ^^^ m.getD k 0) := by rw [u8_xor']
set_option maxHeartbeats 1000000 in
theorem xor_any {A1 A2 : Option Addr} {n1 c1 n2 c2 : Nat} {l m : List UInt8} {w : World} (h1 : At w 1 e8 A1 n1 c1 l) (h2 : At w 1 e8 A2 n2 c2 m) (hn1 : 8 ≤ n1) (hn2 : 8 ≤ n2) :
    Calls Try.prog 33 #[.slice A1 n1 c1, .slice A2 n2 c2] w fun e w' => e = .returned (agg8 (xor8 l m)) ∧ Ext w w' := by
  have hb1 := h1.bound
  have hb2 := h2.bound
  obtain ⟨b, off, rfl, _⟩ := h1.addr (by omega)
  obtain ⟨b2, off2, rfl, _⟩ := h2.addr (by omega)
  have H1 := hide h1; have H2 := hide h2
  clear h1 h2
  go_enter Try.func33, Try.ntmps33
  go_wp2_with fail
  have B0 := ((Blk.new w 90 #[.int .u8 0, .int .u8 0, .int .u8 0, .int .u8 0, .int .u8 0, .int .u8 0, .int .u8 0, .int .u8 0]).alloc (Obj.cells #[.int .u8 0, .int .u8 0, .int .u8 0, .int .u8 0, .int .u8 0, .int .u8 0, .int .u8 0, .int .u8 0] 90))
  have B1 : Blk ((w.alloc (Obj.cells #[.int .u8 0, .int .u8 0, .int .u8 0, .int .u8 0, .int .u8 0, .int .u8 0, .int .u8 0, .int .u8 0] 90)).alloc (Obj.cells #[.int .u8 0, .int .u8 0, .int .u8 0, .int .u8 0, .int .u8 0, .int .u8 0, .int .u8 0, .int .u8 0] 90)) (w.heap.size + 1) 90 (xc l m 0) := by
    have h := Blk.new (w.alloc (Obj.cells #[.int .u8 0, .int .u8 0, .int .u8 0, .int .u8 0, .int .u8 0, .int .u8 0, .int .u8 0, .int .u8 0] 90)) 90 #[.int .u8 0, .int .u8 0, .int .u8 0, .int .u8 0, .int .u8 0, .int .u8 0, .int .u8 0, .int .u8 0]
    rw [World.size_alloc] at h
    exact h
  have X0 : Ext w ((w.alloc (Obj.cells #[.int .u8 0, .int .u8 0, .int .u8 0, .int .u8 0, .int .u8 0, .int .u8 0, .int .u8 0, .int .u8 0] 90)).alloc (Obj.cells #[.int .u8 0, .int .u8 0, .int .u8 0, .int .u8 0, .int .u8 0, .int .u8 0, .int .u8 0, .int .u8 0] 90)) := (by repeat' (first | (with_reducible first | exact Below.refl _ _ | assumption | refine below_drewN ?_ _ | refine Below.drew ?_ | refine ext_alloc ?_ _ | refine Below.setCell ?_ ?_ _) | go_size))
  have HB0 := hide B0; have HB1 := hide B1; have HX0 := hide X0
  clear B0 B1 X0
  go_loopw [7] (fun ri wr => ∃ k : Nat, k ≤ 8 ∧ ri = .int .i64 k ∧ Hid (Blk wr w.heap.size 90 #[.int .u8 0, .int .u8 0, .int .u8 0, .int .u8 0, .int .u8 0, .int .u8 0, .int .u8 0, .int .u8 0]) ∧
      Hid (Blk wr (w.heap.size + 1) 90 (xc l m k)) ∧ Hid (Ext w wr)) (fun i _ => 8 - (intOf i).toNat)
  case atStart => exact ⟨0, by omega, rfl, HB0, HB1, HX0⟩
  case round =>
    obtain ⟨k, hk, rfl, HC0, HC, HX⟩ := hrel
    clear HB0 HB1 HX0
    by_cases hlt : k < 8
    · have a1 := (H1.out.ext HX.out).byteK (k := k) (by omega)
      have a2 := (H2.out.ext HX.out).byteK (k := k) (by omega)
      have a3 : wr.cell? ⟨w.heap.size + 1, k, none⟩ = some (.int .u8 0) := by rw [HC.out.cell]; exact xc_get l m k hlt
      have a4 := HC.out.frozen k
      have i1 : (k : Int) < (n1 : Int) := by omega
      have i2 : (k : Int) < (n2 : Int) := by omega
      have i3 : (k : Int) < 8 := by omega
      go_wp2
      go_region
      go_wp2
      go_roundw
      case rel => exact ⟨k + 1, by omega, by go_num, HC0.out.drew.far (by simp) _, by rw [← xc_set l m k hlt, ← u8_val l m k]; exact HC.out.drew.set_ k _, Below.setCell (Below.drew HX.out) (by simp) _⟩
      case measure => simp [intOf]; omega
    · have hk8 : k = 8 := by omega
      subst hk8
      have q0 : wr.cell? ⟨w.heap.size + 1, 0, none⟩ = some (B8 ((xor8 l m).getD 0 0)) := HC.out.cell 0
      have z0 : wr.cell? ⟨w.heap.size, 0, none⟩ = some (.int .u8 0) := HC0.out.cell 0
      have q1 : wr.cell? ⟨w.heap.size + 1, 1, none⟩ = some (B8 ((xor8 l m).getD 1 0)) := HC.out.cell 1
      have z1 : wr.cell? ⟨w.heap.size, 1, none⟩ = some (.int .u8 0) := HC0.out.cell 1
      have q2 : wr.cell? ⟨w.heap.size + 1, 2, none⟩ = some (B8 ((xor8 l m).getD 2 0)) := HC.out.cell 2
      have z2 : wr.cell? ⟨w.heap.size, 2, none⟩ = some (.int .u8 0) := HC0.out.cell 2
      have q3 : wr.cell? ⟨w.heap.size + 1, 3, none⟩ = some (B8 ((xor8 l m).getD 3 0)) := HC.out.cell 3
      have z3 : wr.cell? ⟨w.heap.size, 3, none⟩ = some (.int .u8 0) := HC0.out.cell 3
      have q4 : wr.cell? ⟨w.heap.size + 1, 4, none⟩ = some (B8 ((xor8 l m).getD 4 0)) := HC.out.cell 4
      have z4 : wr.cell? ⟨w.heap.size, 4, none⟩ = some (.int .u8 0) := HC0.out.cell 4
      have q5 : wr.cell? ⟨w.heap.size + 1, 5, none⟩ = some (B8 ((xor8 l m).getD 5 0)) := HC.out.cell 5
      have z5 : wr.cell? ⟨w.heap.size, 5, none⟩ = some (.int .u8 0) := HC0.out.cell 5
      have q6 : wr.cell? ⟨w.heap.size + 1, 6, none⟩ = some (B8 ((xor8 l m).getD 6 0)) := HC.out.cell 6
      have z6 : wr.cell? ⟨w.heap.size, 6, none⟩ = some (.int .u8 0) := HC0.out.cell 6
      have q7 : wr.cell? ⟨w.heap.size + 1, 7, none⟩ = some (B8 ((xor8 l m).getD 7 0)) := HC.out.cell 7
      have z7 : wr.cell? ⟨w.heap.size, 7, none⟩ = some (.int .u8 0) := HC0.out.cell 7
      have fz := HC0.out.frozen
      generalize hx : xor8 l m = x at *
      have HXX := hide hx
      clear hx
      go_wp2
      refine bodyPost_ret (ret8 (l := x) Try.results33 _ rfl (HC0.out.set8 _ _ _ _ _ _ _ _)) rfl ⟨?_, ?_⟩
      · rw [HXX.out]
      · have X3 := HX.out
        exact (by repeat' (first | (with_reducible first | exact Below.refl _ _ | assumption | refine below_drewN ?_ _ | refine Below.drew ?_ | refine ext_alloc ?_ _ | refine Below.setCell ?_ ?_ _) | go_size))
theorem Try.infoK5 : (Try.prog.info? 5).map (fun i => (i.zero, i.size, i.bytes)) = some (some (.int .u8 0), 1, 1) := by kernel_rfl
def beL (many x : Nat) : List UInt8 := (List.range many).map fun j => UInt8.ofNat (x / 256 ^ (many - 1 - j))
theorem length_beL (many x : Nat) : (beL many x).length = many := by simp [beL]
def xrL (l m : List UInt8) : List UInt8 := (List.range l.length).map fun j => l.getD j 0 ^^^ m.getD j 0
theorem length_xrL (l m : List UInt8) : (xrL l m).length = l.length := by simp [xrL]
end Go.Proofs.Ytkbmgakehlmcnaa
