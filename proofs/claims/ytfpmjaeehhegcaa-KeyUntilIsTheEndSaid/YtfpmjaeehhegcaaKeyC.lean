/- Walks: encrypt, decrypt, xor. Conditions: lengths as stated. -/
import Derived.Test.YtfpmjaeehhegcaaKeyB
namespace Go.Proofs.Ytfpmjaeehhegcaa
open Go.RowKit Kc

theorem and3 (s : UInt32) : bits .and .u32 (s.toNat : Int) 3 = ((s &&& 3).toNat : Int) := by
  have := u32_and s 3
  simpa using this
theorem u32_shr11' (s : UInt32) : bits .and .u32 ((s.toNat : Int) / (2048 : Int)) 3 = (((s >>> 11) &&& 3).toNat : Int) := by
  rw [u32_shr11]; exact and3 _
theorem encN_step (l : List UInt8) (k : Nat) (hk : k < 16) (a b s : UInt32) :
    encN delta l (16 - k) a b s = encN delta l (16 - (k + 1)) (a + addA l b s) (b + addB l (a + addA l b s) (s + delta)) (s + delta) := by
  rw [show 16 - k = (16 - (k + 1)) + 1 by omega, encN_succ]
theorem and3_lt (s : UInt32) : (s &&& 3).toNat < 4 := by
  have h : (s &&& 3).toNat ≤ 3 := by rw [UInt32.toNat_and]; exact Nat.and_le_right
  omega
/-- The four numbers of a key lie in a block. -/
def KeyAt (w : World) (g : Nat) (l : List UInt8) : Prop := ∀ i, i < 4 → w.cell? ⟨g, i, none⟩ = some (.int .u32 ((keyAt l i).toNat : Int))

set_option maxHeartbeats 1000000 in
theorem encrypt_any {A1 A2 : Option Addr} {n1 c1 n2 c2 : Nat} {l m : List UInt8} {w : World} (h1 : At w 1 e8 A1 n1 c1 l) (h2 : At w 1 e8 A2 n2 c2 m) (hn1 : 16 ≤ n1) (hn2 : 8 ≤ n2) :
    Calls Try.prog 47 #[.slice A1 n1 c1, .slice A2 n2 c2] w fun e w' => e = .returned (agg8 (encB l m)) ∧ Ext w w' := by
  have hbd := h2.boundc
  have hle := h2.le
  obtain ⟨b, off, rfl, _⟩ := h2.addr (by omega)
  have h4 := h2.cutAt (k := 4) (by omega) (by omega)
  simp only [Nat.mul_one] at h4
  have i4 : (4:Int) ≤ (n2:Int) := by omega
  have j4 : ¬ c2 = 4 := by omega
  have H1 := hide h1; have H2 := hide h2; have H4 := hide h4
  clear h1 h2 h4
  go_enter Try.func47, Try.ntmps47
  go_wp2_with ((go_at_call 57; with_reducible refine (words_any (H1.out.ext (by repeat' (first | (with_reducible exact Below.refl _ _) | (with_reducible assumption) | (with_reducible refine below_drewN ?_ _) | (with_reducible refine Below.drew ?_) | (with_reducible refine ext_alloc ?_ _) | (with_reducible refine Below.setCell ?_ ?_ _) | go_size))) (by omega)).mono ?_); rintro e w1 ⟨rfl, e1⟩; have e1' : Ext w w1 := Ext.trans (by repeat' (first | (with_reducible exact Below.refl _ _) | (with_reducible assumption) | (with_reducible refine below_drewN ?_ _) | (with_reducible refine Below.drew ?_) | (with_reducible refine ext_alloc ?_ _) | (with_reducible refine Below.setCell ?_ ?_ _) | go_size)) e1)
  have B1 : Blk w1 w.heap.size 86 #[.int .u8 0, .int .u8 0, .int .u8 0, .int .u8 0, .int .u8 0, .int .u8 0, .int .u8 0, .int .u8 0] := Blk.ext (Blk.new w _ _) e1
  have s1 : w.heap.size < w1.heap.size := B1.lt
  have HB1 := hide B1
  have E1 := hide e1'
  clear B1 e1 e1'
  go_quiet (first
    | ((go_at_call 58; with_reducible refine Calls.quiet_of (word_any (H2.out.ext (Ext.trans E1.out (by repeat' (first | (with_reducible exact Below.refl _ _) | (with_reducible assumption) | (with_reducible refine below_drewN ?_ _) | (with_reducible refine Below.drew ?_) | (with_reducible refine ext_alloc ?_ _) | (with_reducible refine Below.setCell ?_ ?_ _) | go_size)))) (by omega))))
    | ((go_at_call 58; with_reducible refine Calls.quiet_of (word_any (H4.out.ext (Ext.trans E1.out (by repeat' (first | (with_reducible exact Below.refl _ _) | (with_reducible assumption) | (with_reducible refine below_drewN ?_ _) | (with_reducible refine Below.drew ?_) | (with_reducible refine ext_alloc ?_ _) | (with_reducible refine Below.setCell ?_ ?_ _) | go_size)))) (by omega)))))
  go_wp2_with fail
  have R0 : encN delta l 16 (wordL m) (wordL (m.drop 4)) 0 = encN delta l 16 (wordL m) (wordL (m.drop 4)) 0 := rfl
  have K0 : KeyAt ((w1.alloc (Obj.cells #[Value.int IntKind.u32 ↑(keyAt l 0).toNat, Value.int IntKind.u32 ↑(keyAt l 1).toNat, Value.int IntKind.u32 ↑(keyAt l 2).toNat, Value.int IntKind.u32 ↑(keyAt l 3).toNat] 102)).drewN nq) w1.heap.size l := by
    have B := (Blk.new w1 102 #[Value.int IntKind.u32 ↑(keyAt l 0).toNat, Value.int IntKind.u32 ↑(keyAt l 1).toNat, Value.int IntKind.u32 ↑(keyAt l 2).toNat, Value.int IntKind.u32 ↑(keyAt l 3).toNat]).drewN nq
    intro i hi
    rw [B.cell]
    match i, hi with
    | 0, _ => rfl
    | 1, _ => rfl
    | 2, _ => rfl
    | 3, _ => rfl
  have B0 := ((HB1.out.alloc (Obj.cells #[Value.int IntKind.u32 ↑(keyAt l 0).toNat, Value.int IntKind.u32 ↑(keyAt l 1).toNat, Value.int IntKind.u32 ↑(keyAt l 2).toNat, Value.int IntKind.u32 ↑(keyAt l 3).toNat] 102)).drewN nq)
  have X0 : Ext w ((w1.alloc (Obj.cells #[Value.int IntKind.u32 ↑(keyAt l 0).toNat, Value.int IntKind.u32 ↑(keyAt l 1).toNat, Value.int IntKind.u32 ↑(keyAt l 2).toNat, Value.int IntKind.u32 ↑(keyAt l 3).toNat] 102)).drewN nq) := Ext.trans E1.out (by repeat' (first | (with_reducible exact Below.refl _ _) | (with_reducible assumption) | (with_reducible refine below_drewN ?_ _) | (with_reducible refine Below.drew ?_) | (with_reducible refine ext_alloc ?_ _) | (with_reducible refine Below.setCell ?_ ?_ _) | go_size))
  have HR0 := hide R0; have HK0 := hide K0; have HB0 := hide B0; have HX0 := hide X0
  clear R0 K0 B0 X0
  generalize hgk : w1.heap.size = gk at *
  go_loopw [6, 7, 8, 16] (fun ra rb rs ri wr => ∃ (k : Nat) (a b s : UInt32), k ≤ 16 ∧ ra = .int .u32 (a.toNat : Int) ∧ rb = .int .u32 (b.toNat : Int) ∧ rs = .int .u32 (s.toNat : Int) ∧ ri = .int .i64 k ∧
      Hid (encN delta l (16 - k) a b s = encN delta l 16 (wordL m) (wordL (m.drop 4)) 0) ∧ Hid (KeyAt wr gk l) ∧
      Hid (Blk wr w.heap.size 86 #[.int .u8 0, .int .u8 0, .int .u8 0, .int .u8 0, .int .u8 0, .int .u8 0, .int .u8 0, .int .u8 0]) ∧ Hid (Ext w wr)) (fun _ _ _ i _ => 16 - (intOf i).toNat)
  case atStart => exact ⟨0, wordL m, wordL (m.drop 4), 0, by omega, rfl, rfl, rfl, rfl, HR0, HK0, HB0, HX0⟩
  case round =>
    obtain ⟨k, a, b, s, hk, rfl, rfl, rfl, rfl, HR, HK, HB, HX⟩ := hrel
    clear HR0 HK0 HB0 HX0 HB1 E1
    have HG := hide hgk
    clear hgk
    by_cases hlt : k < 16
    · obtain ⟨i, hi⟩ : ∃ i, i = (s &&& 3).toNat := ⟨_, rfl⟩
      have i4 : i < 4 := by rw [hi]; exact and3_lt s
      have b1 : bits .and .u32 (s.toNat : Int) 3 = (i : Int) := by rw [hi]; exact and3 s
      have c1 : wr.cell? ⟨gk, i, none⟩ = some (.int .u32 ((keyAt l i).toNat : Int)) := HK.out i i4
      have i5 : (i : Int) < 4 := by omega
      obtain ⟨t, ht⟩ : ∃ t, t = s + keyAt l i := ⟨_, rfl⟩
      have t1 : ((s.toNat : Int) + ((keyAt l i).toNat : Int)) % 4294967296 = (t.toNat : Int) := by rw [ht]; exact u32_add _ _
      obtain ⟨q, hq⟩ : ∃ q, q = mixU b ^^^ t := ⟨_, rfl⟩
      have q1 : bits .xor .u32 ((mixU b).toNat : Int) (t.toNat : Int) = (q.toNat : Int) := by rw [hq]; exact u32_xor _ _
      obtain ⟨a', ha'⟩ : ∃ a', a' = a + q := ⟨_, rfl⟩
      have a1 : ((a.toNat : Int) + (q.toNat : Int)) % 4294967296 = (a'.toNat : Int) := by rw [ha']; exact u32_add _ _
      obtain ⟨s', hs'⟩ : ∃ s', s' = s + delta := ⟨_, rfl⟩
      have d1 : ((s.toNat : Int) + 2654435769) % 4294967296 = (s'.toNat : Int) := by rw [hs']; have h := u32_add s delta; rw [delta_nat] at h; exact h
      obtain ⟨i', hi'⟩ : ∃ i', i' = ((s' >>> 11) &&& 3).toNat := ⟨_, rfl⟩
      have i4' : i' < 4 := by rw [hi']; exact and3_lt _
      have b1' : bits .and .u32 ((s'.toNat : Int) / 2048) 3 = (i' : Int) := by rw [hi']; exact u32_shr11' _
      have c1' : wr.cell? ⟨gk, i', none⟩ = some (.int .u32 ((keyAt l i').toNat : Int)) := HK.out i' i4'
      have i5' : (i' : Int) < 4 := by omega
      obtain ⟨t', ht'⟩ : ∃ t, t = s' + keyAt l i' := ⟨_, rfl⟩
      have t1' : ((s'.toNat : Int) + ((keyAt l i').toNat : Int)) % 4294967296 = (t'.toNat : Int) := by rw [ht']; exact u32_add _ _
      obtain ⟨q', hq'⟩ : ∃ q, q = mixU a' ^^^ t' := ⟨_, rfl⟩
      have q1' : bits .xor .u32 ((mixU a').toNat : Int) (t'.toNat : Int) = (q'.toNat : Int) := by rw [hq']; exact u32_xor _ _
      obtain ⟨b', hb'⟩ : ∃ b', b' = b + q' := ⟨_, rfl⟩
      have a1' : ((b.toNat : Int) + (q'.toNat : Int)) % 4294967296 = (b'.toNat : Int) := by rw [hb']; exact u32_add _ _
      have hN : encN delta l (16 - k) a b s = encN delta l (16 - (k + 1)) a' b' s' := by
        rw [encN_step l k hlt a b s, hb', hq', ht', hi', ha', hq, ht, hi, hs']; simp only [addA, addB]
      have HN := hide hN
      clear hi ht hq ha' hs' hi' ht' hq' hb' hN
      go_wp2_with fail
      go_quiet ((go_at_call 59; exact quiet_left (mix_any _ _)))
      go_wp2_with fail
      go_quiet ((go_at_call 59; exact quiet_add_left (mix_any _ _)))
      go_wp2
      go_roundw
      case rel =>
        exact ⟨k + 1, a', b', s', by omega, by first | exact int_val a1 | with_reducible rfl, by first | exact int_val a1' | with_reducible rfl, by first | exact int_val d1 | with_reducible rfl, by go_num, HN.out.symm.trans HR.out, HK.out, HB.out, below_drewN HX.out _⟩
      case measure => simp [intOf]; omega
    · have hk16 : k = 16 := by omega
      subst hk16
      have hr : encB l m = bytes8 a b := by
        have h := HR.out
        rw [show 16 - 16 = 0 by rfl, encN] at h
        unfold encB
        rw [← h]
      have HRR := hide hr
      clear hr HR
      go_wp2_with ((go_at_call 46; with_reducible refine (wordBytes_any _ _ _).mono ?_); rintro e w2 ⟨rfl, e2⟩; have B2 := HB.out.ext e2; have fz := B2.frozen; have q0 := B2.cell 0; have q1 := B2.cell 1; have q2 := B2.cell 2; have q3 := B2.cell 3; have q4 := B2.cell 4; have q5 := B2.cell 5; have q6 := B2.cell 6; have q7 := B2.cell 7; have X2 := hide (Ext.trans HX.out e2); have HB2 := hide B2; clear B2 e2; simp only [List.getElem?_toArray, List.getElem?_cons_zero, List.getElem?_cons_succ] at q0 q1 q2 q3 q4 q5 q6 q7)
      refine bodyPost_ret (ret8 (l := bytes8 a b) Try.results47 _ rfl (HB2.out.set8 _ _ _ _ _ _ _ _)) rfl ⟨?_, ?_⟩
      · rw [HRR.out]
      · have X3 := X2.out
        exact (by repeat' (first | (with_reducible exact Below.refl _ _) | (with_reducible assumption) | (with_reducible refine below_drewN ?_ _) | (with_reducible refine Below.drew ?_) | (with_reducible refine ext_alloc ?_ _) | (with_reducible refine Below.setCell ?_ ?_ _) | go_size))
end Go.Proofs.Ytfpmjaeehhegcaa
