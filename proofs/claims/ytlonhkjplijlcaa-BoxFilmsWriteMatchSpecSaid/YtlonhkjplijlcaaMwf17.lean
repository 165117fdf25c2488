/- Several texts in one: Walks: runBytes, listBytes (reference). Conditions as stated; Walks: chunksOf (both). Conditions as stated; Walk: edits (reference). Conditions as stated. -/
import Derived.Test.YtlonhkjplijlcaaMwf12
import Derived.Test.YtlonhkjplijlcaaMwf16
import Derived.Test.YtlonhkjplijlcaaMwf03
import Derived.Test.YtlonhkjplijlcaaMwf10
import Derived.Lib.MinMax
namespace Go.Proofs.Ytlonhkjplijlcaa
open Go.RowKit
/-- What a writer of new bytes gives. -/
def NewB (w : World) (l : List UInt8) (e : Ending) (w' : World) : Prop := ∃ v, e = .returned v ∧ Own w' w.heap.size 5 1 e8 v l ∧ Ext w w'
theorem u64n_N (x : Int) : u64n x = u64N x := rfl
theorem u64N_nat {n : Nat} (h : n < 18446744073709551616) : u64N (n : Int) = n := by unfold u64N; rw [IntKind.wrap_u64]; omega
theorem lsB_two (l : List Int) (x y : Int) : lsB (l ++ [x, y]) = lsB l ++ beN 8 (u64N x) ++ beN 8 (u64N y) := by unfold lsB; rw [List.flatMap_append]; simp
set_option linter.unusedVariables false in
set_option maxRecDepth 100000 in
set_option maxHeartbeats 4000000 in
theorem refRunBytes_any {A : Option Addr} {n c : Nat} {l : List (Int × Int)} {w : World} (h : At w 2 e2 A n c l) (hn : n ≤ 1000000) :
    Calls Try.prog 77 #[.slice A n c] w (NewB w (liB l.length (rnN l))) := by
  have H := hide h
  have HL := hide h.len
  have HWN := hide (fun (W : World) => wrtO (w := W) (x := (n : Int)) 4 4 rfl (by omega))
  have HUN : Hid (u64n (n : Int) = l.length) := hide (by rw [u64n_N, u64N_nat (by omega), h.len])
  have HLB : Hid (∀ k, (liB l.length (rnN (l.take k))).length ≤ 100000000) := hide (fun k => by rw [liB_len, rnN_len, List.length_take]; have := h.len; omega)
  obtain ⟨i0_, hi0, hz0, hz1, hz2⟩ := info_parts Try.info5
  clear h
  go_enter Try.func77, Try.ntmps77
  go_wp2_with fail
  with_reducible refine (HWN.out _).mono ?_
  rintro e w1 ⟨g1, rfl, o1, e1⟩
  rw [HUN.out] at o1
  have O1 := hide o1
  have E1 := hide e1
  clear o1 e1 HWN HUN
  go_wp2_with fail
  go_loopw [3, 4] (fun r3 ri wr => ∃ k : Nat, k ≤ n ∧ ri = .int .i64 k ∧ Hid (Own wr w.heap.size 5 1 e8 r3 (liB l.length (rnN (l.take k)))) ∧ Hid (Ext w wr)) (fun _ ri _ => n - (intOf ri).toNat)
  case atStart => exact ⟨0, by omega, rfl, hide (by simpa [liB, rnN, lsB] using O1.out), E1⟩
  case round =>
    clear O1 E1
    obtain ⟨k, hk, rfl, HO, HX⟩ := hrel
    by_cases hlt : k < n
    · obtain ⟨b, off, rfl, _⟩ := H.out.addr (by omega)
      obtain ⟨a0, a1⟩ := (H.out.ext HX.out).pair hlt
      have HPR := hide (fun (W : World) (hW : Ext w W) => (H.out.ext hW).pair hlt)
      have HSU : Hid (liB l.length (rnN (l.take (k + 1))) = liB l.length (rnN (l.take k)) ++ beN 8 (u64n (l.getD k (0, 0)).1) ++ beN 8 (u64n (l.getD k (0, 0)).2)) := hide (by rw [rnN_take (by have := HL.out; omega)]; unfold liB; rw [lsB_two, u64n_N, u64n_N]; simp only [List.append_assoc])
      generalize (l.getD k (0, 0)).1 = x at *
      generalize (l.getD k (0, 0)).2 = y at *
      have hlk := HLB.out k
      generalize liB l.length (rnN (l.take k)) = acc at *
      have i1 : (k : Int) < (n : Int) := by omega
      have i0 : (0 : Int) ≤ (k : Int) := by omega
      have i8 : IntKind.i64.wrap ((k : Int) + 1) = (k : Int) + 1 := by rw [IntKind.wrap_i64]; omega
      have S1 : Hid (acc.length + 8 ≤ maxLen) := hide (by unfold maxLen; omega)
      have S2 : Hid ((acc.length + 8) * 1 ≤ 140737488355328) := hide (by omega)
      have T1 : Hid ((acc ++ beN 8 (u64n x)).length + 8 ≤ maxLen) := hide (by rw [List.length_append, beN_len]; unfold maxLen; omega)
      have T2 : Hid (((acc ++ beN 8 (u64n x)).length + 8) * 1 ≤ 140737488355328) := hide (by rw [List.length_append, beN_len]; omega)
      have HW1 := hide (fun (W : World) => wrtO (w := W) (x := x) 8 8 rfl (by omega))
      have HW2 := hide (fun (W : World) => wrtO (w := W) (x := y) 8 8 rfl (by omega))
      clear hlk
      go_wp2_with fail
      with_reducible refine (HW1.out _).mono ?_
      rintro e w4 ⟨g4, rfl, o4, e4⟩
      have A4 := hide (o4.atS len_e8)
      have OB := hide (HO.out.ext e4)
      have E4 := hide (Ext.trans HX.out e4)
      have S3 := hide (ext_size E4.out)
      clear o4 e4 a0 a1 HO HX
      go_upto_region 6 with (at_builtin; refine wpList_append_at _ rfl (.tmp 14) (.tmp 20) 26 rfl w.heap.size 5 i0_ _ 1 Try.underlying26 hi0 hz0 hz1 hz2 rfl (by omega) len_e8 one_e8 _ _ (by rfl) OB.out (some ⟨g4, 0, none⟩) 8 8 _ (by rfl) A4.out S1.out S2.out S3.out ?_; intro v5 w5 o5 g5 _ _; have O5 := hide o5; have G5 := hide g5; clear o5 g5)
      have E5 := hide (OB.out.below E4.out G5.out (Nat.le_refl _))
      obtain ⟨c0, c1⟩ := HPR.out _ E5.out
      clear OB E4 G5 A4 HPR
      go_wp2_with fail
      with_reducible refine (HW2.out _).mono ?_
      rintro e w6 ⟨g6, rfl, o6, e6⟩
      have A6 := hide (o6.atS len_e8)
      have OC := hide (O5.out.ext e6)
      have E6 := hide (Ext.trans E5.out e6)
      have T3 := hide (ext_size E6.out)
      clear o6 e6 c0 c1 O5 E5
      go_wp2_with (at_builtin; refine wpList_append_at _ rfl (.tmp 22) (.tmp 28) 26 rfl w.heap.size 5 i0_ _ 1 Try.underlying26 hi0 hz0 hz1 hz2 rfl (by omega) len_e8 one_e8 _ _ (by rfl) OC.out (some ⟨g6, 0, none⟩) 8 8 _ (by rfl) A6.out T1.out T2.out T3.out ?_; intro v7 w7 o7 g7 _ _; have O7 := hide o7; have G7 := hide g7; clear o7 g7)
      exact ⟨⟨k + 1, by omega, by go_num, hide (by rw [HSU.out]; exact O7.out), hide (OC.out.below E6.out G7.out (Nat.le_refl _))⟩, by simp [intOf]; omega⟩
    · obtain rfl : k = n := by omega
      have HTK : Hid (l.take k = l) := hide (List.take_of_length_le (by have := HL.out; omega))
      go_wp2_with fail
      go_ret
      exact ⟨_, rfl, by have := HO.out; rw [HTK.out] at this; exact this, HX.out⟩
set_option linter.unusedVariables false in
set_option maxRecDepth 100000 in
set_option maxHeartbeats 4000000 in
theorem refListBytes_any {A : Option Addr} {n c : Nat} {l : List Int} {w : World} (h : At w 1 e64 A n c l) (hn : n ≤ 1000000) :
    Calls Try.prog 78 #[.slice A n c] w (NewB w (liB l.length l)) := by
  have H := hide h
  have HL := hide h.len
  have HWN := hide (fun (W : World) => wrtO (w := W) (x := (n : Int)) 4 4 rfl (by omega))
  have HUN : Hid (u64n (n : Int) = l.length) := hide (by rw [u64n_N, u64N_nat (by omega), h.len])
  have HLB : Hid (∀ k, (liB l.length (l.take k)).length ≤ 100000000) := hide (fun k => by rw [liB_len, List.length_take]; have := h.len; omega)
  obtain ⟨i0_, hi0, hz0, hz1, hz2⟩ := info_parts Try.info5
  clear h
  go_enter Try.func78, Try.ntmps78
  go_wp2_with fail
  with_reducible refine (HWN.out _).mono ?_
  rintro e w1 ⟨g1, rfl, o1, e1⟩
  rw [HUN.out] at o1
  have O1 := hide o1
  have E1 := hide e1
  clear o1 e1 HWN HUN
  go_wp2_with fail
  go_loopw [3, 4] (fun r3 ri wr => ∃ k : Nat, k ≤ n ∧ ri = .int .i64 k ∧ Hid (Own wr w.heap.size 5 1 e8 r3 (liB l.length (l.take k))) ∧ Hid (Ext w wr)) (fun _ ri _ => n - (intOf ri).toNat)
  case atStart => exact ⟨0, by omega, rfl, hide (by simpa [liB, lsB] using O1.out), E1⟩
  case round =>
    clear O1 E1
    obtain ⟨k, hk, rfl, HO, HX⟩ := hrel
    by_cases hlt : k < n
    · obtain ⟨b, off, rfl, _⟩ := H.out.addr (by omega)
      have a0 := (H.out.ext HX.out).cellK hlt 0 0 _ rfl
      simp only [Nat.mul_one, Nat.add_zero] at a0
      have HSU : Hid (liB l.length (l.take (k + 1)) = liB l.length (l.take k) ++ beN 8 (u64n (l.getD k 0))) := hide (by unfold liB; rw [lsB_take (by have := HL.out; omega), u64n_N, List.append_assoc])
      generalize l.getD k 0 = x at *
      have hlk := HLB.out k
      generalize liB l.length (l.take k) = acc at *
      have i1 : (k : Int) < (n : Int) := by omega
      have i0 : (0 : Int) ≤ (k : Int) := by omega
      have i8 : IntKind.i64.wrap ((k : Int) + 1) = (k : Int) + 1 := by rw [IntKind.wrap_i64]; omega
      have S1 : Hid (acc.length + 8 ≤ maxLen) := hide (by unfold maxLen; omega)
      have S2 : Hid ((acc.length + 8) * 1 ≤ 140737488355328) := hide (by omega)
      have HW1 := hide (fun (W : World) => wrtO (w := W) (x := x) 8 8 rfl (by omega))
      clear hlk
      go_wp2_with fail
      with_reducible refine (HW1.out _).mono ?_
      rintro e w4 ⟨g4, rfl, o4, e4⟩
      have A4 := hide (o4.atS len_e8)
      have OB := hide (HO.out.ext e4)
      have E4 := hide (Ext.trans HX.out e4)
      have S3 := hide (ext_size E4.out)
      clear o4 e4 a0 HO HX
      go_wp2_with (at_builtin; refine wpList_append_at _ rfl (.tmp 14) (.tmp 19) 26 rfl w.heap.size 5 i0_ _ 1 Try.underlying26 hi0 hz0 hz1 hz2 rfl (by omega) len_e8 one_e8 _ _ (by rfl) OB.out (some ⟨g4, 0, none⟩) 8 8 _ (by rfl) A4.out S1.out S2.out S3.out ?_; intro v5 w5 o5 g5 _ _; have O5 := hide o5; have G5 := hide g5; clear o5 g5)
      exact ⟨⟨k + 1, by omega, by go_num, hide (by rw [HSU.out]; exact O5.out), hide (OB.out.below E4.out G5.out (Nat.le_refl _))⟩, by simp [intOf]; omega⟩
    · obtain rfl : k = n := by omega
      have HTK : Hid (l.take k = l) := hide (List.take_of_length_le (by have := HL.out; omega))
      go_wp2_with fail
      go_ret
      exact ⟨_, rfl, by have := HO.out; rw [HTK.out] at this; exact this, HX.out⟩
end Go.Proofs.Ytlonhkjplijlcaa
namespace Go.Proofs.Ytlonhkjplijlcaa
open Go.RowKit
/-- The first so many chunks of so many samples. -/
def ckK (n ch : Nat) : Nat → List Int
  | 0 => []
  | k + 1 => ckK n ch k ++ [((min ch (n - k * ch) : Nat) : Int)]
theorem ckK_len (n ch : Nat) : ∀ k, (ckK n ch k).length = k
  | 0 => rfl
  | k + 1 => by rw [ckK, List.length_append, ckK_len n ch k]; rfl
/-- How many chunks. -/
def ckN (n ch : Nat) : Nat := (n + ch - 1) / ch
def ckL (n ch : Nat) : List Int := ckK n ch (ckN n ch)
theorem ckN_at {n ch k : Nat} (hc : 1 ≤ ch) (h1 : k = 0 ∨ (k - 1) * ch < n) (h2 : n ≤ k * ch) : ckN n ch = k := by
  unfold ckN
  rcases Nat.eq_zero_or_pos k with h0 | h0
  · subst h0
    have : n = 0 := by omega
    subst this
    rw [Nat.div_eq_of_lt (by omega)]
  · obtain ⟨j, rfl⟩ : ∃ j, k = j + 1 := ⟨k - 1, by omega⟩
    have h3 : j * ch < n := by rcases h1 with h1 | h1; omega; simpa using h1
    rw [Nat.succ_mul] at h2
    rw [Nat.div_eq_of_lt_le]
    · rw [Nat.succ_mul]; omega
    · rw [Nat.succ_mul, Nat.succ_mul]; omega
theorem ckN_lt {n ch k : Nat} (hc : 1 ≤ ch) : k < ckN n ch ↔ k * ch < n := by
  unfold ckN
  constructor
  · intro h
    have h1 : (k + 1) * ch ≤ n + ch - 1 := by
      have := (Nat.le_div_iff_mul_le (by omega)).1 (show k + 1 ≤ (n + ch - 1) / ch from h)
      exact this
    rw [Nat.succ_mul] at h1
    omega
  · intro h
    have : (k + 1) ≤ (n + ch - 1) / ch := (Nat.le_div_iff_mul_le (by omega)).2 (by rw [Nat.succ_mul]; omega)
    exact this
theorem ckK_get {n ch : Nat} : ∀ {m k : Nat}, k < m → (ckK n ch m).getD k 0 = ((min ch (n - k * ch) : Nat) : Int)
  | 0, k, h => absurd h (Nat.not_lt_zero _)
  | m + 1, k, h => by
    rw [ckK]
    simp only [List.getD_eq_getElem?_getD]
    by_cases hk : k < m
    · rw [List.getElem?_append_left (by rw [ckK_len]; exact hk)]
      have := ckK_get (n := n) (ch := ch) hk
      simpa [List.getD_eq_getElem?_getD] using this
    · obtain rfl : k = m := by omega
      rw [List.getElem?_append_right (by rw [ckK_len]; omega), ckK_len]
      simp
theorem ckN_le {n ch : Nat} (hc : 1 ≤ ch) : ckN n ch ≤ n := by
  rcases Nat.eq_zero_or_pos (ckN n ch) with h | h
  · omega
  · have h1 : ckN n ch - 1 < ckN n ch := by omega
    rw [ckN_lt hc] at h1
    have h2 : (ckN n ch - 1) * 1 ≤ (ckN n ch - 1) * ch := Nat.mul_le_mul_left _ hc
    omega
/-- What gives a row of numbers. -/
def NewI (w : World) (l : List Int) (e : Ending) (w' : World) : Prop := ∃ v, e = .returned v ∧ Own w' w.heap.size 3 1 e64 v l ∧ Ext w w'
theorem ckN_bd {n ch k : Nat} (hc2 : ch ≤ 1000) (hk : k = 0 ∨ (k - 1) * ch < n) : k * ch ≤ n + 1000 := by
  rcases hk with h | h
  · subst h; omega
  · cases k with
    | zero => omega
    | succ j => rw [Nat.succ_mul]; simp only [Nat.add_sub_cancel] at h; omega
set_option linter.unusedVariables false in
set_option maxRecDepth 100000 in
set_option maxHeartbeats 4000000 in
theorem keyChunks_any {u0 u1 u3 : Value} {sA : Option Addr} {n sc : Nat} {ch : Nat} {w : World} (hn : n ≤ 5000) (hc : 1 ≤ ch) (hc2 : ch ≤ 1000) :
    Calls Try.prog 44 #[.agg #[u0, u1, .slice sA n sc, u3], .int .i64 (ch : Int)] w (NewI w (ckL n ch)) := by
  have X0 := hide (Blk.new w 53 #[u0, u1, .slice sA n sc, u3])
  have E0 := hide (Ext.alloc w (.cells #[u0, u1, .slice sA n sc, u3] 53))
  obtain ⟨i0_, hi0, hz0, hz1, hz2⟩ := info_parts Try.info3
  have HEND := hide (fun (k : Nat) (h1 : k = 0 ∨ (k - 1) * ch < n) (h2 : n ≤ k * ch) => (by unfold ckL; rw [ckN_at hc h1 h2] : ckL n ch = ckK n ch k))
  have HLN := hide (fun k => ckK_len n ch k)
  go_enter Try.func44, Try.ntmps44
  go_upto_region 2 with (fail)
  refine gen_wpC fun w0 h0 => ?_
  rw [← h0] at X0 E0
  clear h0
  have x2 : w0.cell? ⟨w.heap.size, 2, none⟩ = some (.slice sA n sc) := X0.out.cell 2
  go_wp2_with fail
  clear x2
  go_loopw [5, 6] (fun r5 r6 wr => ∃ (k p : Nat) (v : Value), v = r5 ∧ r6 = .int .i64 ((n : Int) - (p : Int)) ∧ k * ch = p ∧ (k = 0 ∨ (k - 1) * ch < n) ∧ Hid (Own wr w.heap.size 3 1 e64 v (ckK n ch k)) ∧ Hid (Ext w wr)) (fun _ r6 _ => (intOf r6).toNat)
  case atStart => exact ⟨0, 0, _, rfl, by simp, by simp, .inl rfl, hide (by rw [ckK]; exact Own.nil _ _ _ _ _), E0⟩
  case round =>
    obtain ⟨k, p, v, rfl, rfl, hp, hk1, HO, HX⟩ := hrel
    have hkb := ckN_bd hc2 hk1
    have HSU : Hid (ckK n ch (k + 1) = ckK n ch k ++ [((min ch (n - k * ch) : Nat) : Int)]) := hide rfl
    have hkl : k * 1 ≤ k * ch := Nat.mul_le_mul_left _ hc
    have HKS := hide (Nat.succ_mul k ch)
    have HE := hide (HEND.out k hk1)
    have HP := hide hp
    rw [hp] at hkb HSU hkl HKS HE
    clear hp
    have HLK := hide (HLN.out k)
    by_cases hlt : p < n
    · have i1 : (0 : Int) < (n : Int) - (p : Int) := by omega
      have hmn : min ((n : Int) - (p : Int)) (ch : Int) = ((min ch (n - p) : Nat) : Int) := by omega
      have S1 : Hid ((ckK n ch k).length + 1 ≤ maxLen) := hide (by rw [HLK.out]; unfold maxLen; omega)
      have S2 : Hid (((ckK n ch k).length + 1) * 8 ≤ 140737488355328) := hide (by rw [HLK.out]; omega)
      have S3 : Hid (∀ x : Int, w.heap.size ≤ (wr.alloc (.cells #[.int .i64 x] 3)).heap.size) := hide (fun x => by rw [World.size_alloc]; have := HX.out.size; omega)
      have i8 : IntKind.i64.wrap ((n : Int) - (p : Int) - (ch : Int)) = (n : Int) - ((p + ch : Nat) : Int) := by rw [IntKind.wrap_i64]; omega
      have HRL : Hid ((k + 1) * ch = p + ch ∧ (k + 1 = 0 ∨ (k + 1 - 1) * ch < n)) := hide ⟨HKS.out, .inr (by simp only [Nat.add_sub_cancel, HP.out]; exact hlt)⟩
      generalize ((min ch (n - p) : Nat) : Int) = x at *
      go_wp2_with (at_builtin; refine wpList_append_at _ rfl (.tmp 15) (.tmp 19) 70 rfl w.heap.size 3 i0_ _ 8 Try.underlying70 hi0 hz0 hz1 hz2 rfl (by omega) len_e64 one_e64 _ _ (by rfl) (HO.out.ext (Ext.alloc _ _)) (some ⟨wr.heap.size, 0, none⟩) 1 1 [x] (by rfl) (At.new1 wr x _ rfl _) S1.out S2.out (S3.out x) ?_; intro v7 w7 o7 g7 n7 r7; have O7 := hide o7; have G7 := hide (Own.below (w0 := w) (HO.out.ext (Ext.alloc wr (.cells #[.int .i64 x] 3))) (Ext.trans HX.out (Ext.alloc _ _)) g7 (Nat.le_refl _)); clear o7 g7 n7 r7)
      exact ⟨⟨k + 1, p + ch, _, rfl, by first | rfl | rw [i8], HRL.out.1, HRL.out.2, hide (by rw [HSU.out]; exact O7.out), G7⟩, by simp [intOf]; omega⟩
    · have hE := HE.out (by omega)
      have HF := hide hE
      have i1 : ¬ (0 : Int) < (n : Int) - (p : Int) := by omega
      clear hE
      go_wp2_with fail
      go_ret
      exact ⟨_, rfl, by rw [HF.out]; exact HO.out, HX.out⟩
set_option linter.unusedVariables false in
set_option maxRecDepth 100000 in
set_option maxHeartbeats 4000000 in
theorem refChunks_any {n ch : Nat} {w : World} (hn : n ≤ 5000) (hc : 1 ≤ ch) (hc2 : ch ≤ 1000) :
    Calls Try.prog 48 #[.int .i64 (n : Int), .int .i64 (ch : Int)] w (NewI w (ckL n ch)) := by
  obtain ⟨i0_, hi0, hz0, hz1, hz2⟩ := info_parts Try.info3
  have HEND := hide (fun (k : Nat) (h1 : k = 0 ∨ (k - 1) * ch < n) (h2 : n ≤ k * ch) => (by unfold ckL; rw [ckN_at hc h1 h2] : ckL n ch = ckK n ch k))
  have HLN := hide (fun k => ckK_len n ch k)
  have HG : Hid (∃ g, g = w.heap.size) := hide ⟨_, rfl⟩
  have E0 := hide (Ext.refl w)
  go_enter Try.func48, Try.ntmps48
  go_wp2_with fail
  go_loopw [5, 6] (fun r5 r6 wr => ∃ (k p : Nat) (v : Value), v = r5 ∧ r6 = .int .i64 (p : Int) ∧ k * ch = p ∧ (k = 0 ∨ (k - 1) * ch < n) ∧ Hid (Own wr w.heap.size 3 1 e64 v (ckK n ch k)) ∧ Hid (Ext w wr)) (fun _ r6 _ => ((n : Int) - intOf r6).toNat)
  case atStart => exact ⟨0, 0, _, rfl, rfl, by simp, .inl rfl, hide (by rw [ckK]; exact Own.nil _ _ _ _ _), E0⟩
  case round =>
    obtain ⟨k, p, v, rfl, rfl, hp, hk1, HO, HX⟩ := hrel
    have hkb := ckN_bd hc2 hk1
    have HSU : Hid (ckK n ch (k + 1) = ckK n ch k ++ [((min ch (n - k * ch) : Nat) : Int)]) := hide rfl
    have hkl : k * 1 ≤ k * ch := Nat.mul_le_mul_left _ hc
    have HKS := hide (Nat.succ_mul k ch)
    have HE := hide (HEND.out k hk1)
    have HP := hide hp
    rw [hp] at hkb HSU hkl HKS HE
    clear hp
    have HLK := hide (HLN.out k)
    by_cases hlt : p < n
    · have i1 : (p : Int) < (n : Int) := by omega
      have hmn : min (ch : Int) ((n : Int) - (p : Int)) = ((min ch (n - p) : Nat) : Int) := by omega
      have i7 : IntKind.i64.wrap ((n : Int) - (p : Int)) = (n : Int) - (p : Int) := by rw [IntKind.wrap_i64]; omega
      have S1 : Hid ((ckK n ch k).length + 1 ≤ maxLen) := hide (by rw [HLK.out]; unfold maxLen; omega)
      have S2 : Hid (((ckK n ch k).length + 1) * 8 ≤ 140737488355328) := hide (by rw [HLK.out]; omega)
      have S3 : Hid (∀ x : Int, w.heap.size ≤ (wr.alloc (.cells #[.int .i64 x] 3)).heap.size) := hide (fun x => by rw [World.size_alloc]; have := HX.out.size; omega)
      have i8 : IntKind.i64.wrap ((p : Int) + (ch : Int)) = ((p + ch : Nat) : Int) := by rw [IntKind.wrap_i64]; omega
      have HRL : Hid ((k + 1) * ch = p + ch ∧ (k + 1 = 0 ∨ (k + 1 - 1) * ch < n)) := hide ⟨HKS.out, .inr (by simp only [Nat.add_sub_cancel, HP.out]; exact hlt)⟩
      generalize ((min ch (n - p) : Nat) : Int) = x at *
      go_wp2_with (at_builtin; refine wpList_append_at _ rfl (.tmp 13) (.tmp 19) 70 rfl w.heap.size 3 i0_ _ 8 Try.underlying70 hi0 hz0 hz1 hz2 rfl (by omega) len_e64 one_e64 _ _ (by rfl) (HO.out.ext (Ext.alloc _ _)) (some ⟨wr.heap.size, 0, none⟩) 1 1 [x] (by rfl) (At.new1 wr x _ rfl _) S1.out S2.out (S3.out x) ?_; intro v7 w7 o7 g7 n7 r7; have O7 := hide o7; have G7 := hide (Own.below (w0 := w) (HO.out.ext (Ext.alloc wr (.cells #[.int .i64 x] 3))) (Ext.trans HX.out (Ext.alloc _ _)) g7 (Nat.le_refl _)); clear o7 g7 n7 r7)
      exact ⟨⟨k + 1, p + ch, _, rfl, by first | rfl | rw [i8], HRL.out.1, HRL.out.2, hide (by rw [HSU.out]; exact O7.out), G7⟩, by simp [intOf]; omega⟩
    · have hE := HE.out (by omega)
      have HF := hide hE
      have i1 : ¬ (p : Int) < (n : Int) := by omega
      clear hE
      go_wp2_with fail
      go_ret
      exact ⟨_, rfl, by rw [HF.out]; exact HO.out, HX.out⟩
end Go.Proofs.Ytlonhkjplijlcaa
namespace Go.Proofs.Ytlonhkjplijlcaa
open Go.RowKit
/-- Edits as bytes. -/
def edB (l : List (Int × Int)) : List UInt8 := lsB (rnN l)
theorem edB_len (l : List (Int × Int)) : (edB l).length = 16 * l.length := by
  have h := liB_len 0 (rnN l)
  unfold liB at h
  rw [List.length_append, beN_len, rnN_len] at h
  unfold edB
  omega
set_option linter.unusedVariables false in
set_option maxRecDepth 100000 in
set_option maxHeartbeats 4000000 in
theorem refEdits_any {A : Option Addr} {n c : Nat} {l : List (Int × Int)} {w : World} (h : At w 2 e2 A n c l) (hn : n ≤ 1000000) :
    Calls Try.prog 51 #[.slice A n c] w (NewB w (edB l)) := by
  have H := hide h
  have HL := hide h.len
  have HLB : Hid (∀ k, (edB (l.take k)).length ≤ 100000000) := hide (fun k => by rw [edB_len, List.length_take]; have := h.len; omega)
  have HG : Hid (∃ g, g = w.heap.size) := hide ⟨_, rfl⟩
  have E0 := hide (Ext.refl w)
  obtain ⟨i0_, hi0, hz0, hz1, hz2⟩ := info_parts Try.info5
  clear h
  go_enter Try.func51, Try.ntmps51
  go_wp2_with fail
  go_loopw [3, 4] (fun r3 ri wr => ∃ k : Nat, k ≤ n ∧ ri = .int .i64 k ∧ Hid (Own wr w.heap.size 5 1 e8 r3 (edB (l.take k))) ∧ Hid (Ext w wr)) (fun _ ri _ => n - (intOf ri).toNat)
  case atStart => exact ⟨0, by omega, rfl, hide (by simpa [edB, rnN, lsB] using Own.nil _ _ _ _ _), E0⟩
  case round =>
    clear E0
    obtain ⟨k, hk, rfl, HO, HX⟩ := hrel
    by_cases hlt : k < n
    · obtain ⟨b, off, rfl, _⟩ := H.out.addr (by omega)
      obtain ⟨a0, a1⟩ := (H.out.ext HX.out).pair hlt
      have HPR := hide (fun (W : World) (hW : Ext w W) => (H.out.ext hW).pair hlt)
      have HSU : Hid (edB (l.take (k + 1)) = edB (l.take k) ++ beN 8 (u64n (l.getD k (0, 0)).1) ++ beN 8 (u64n (l.getD k (0, 0)).2)) := hide (by unfold edB; rw [rnN_take (by have := HL.out; omega), lsB_two, u64n_N, u64n_N])
      generalize (l.getD k (0, 0)).1 = x at *
      generalize (l.getD k (0, 0)).2 = y at *
      have hlk := HLB.out k
      generalize edB (l.take k) = acc at *
      have i1 : (k : Int) < (n : Int) := by omega
      have i0 : (0 : Int) ≤ (k : Int) := by omega
      have i8 : IntKind.i64.wrap ((k : Int) + 1) = (k : Int) + 1 := by rw [IntKind.wrap_i64]; omega
      have S1 : Hid (acc.length + 8 ≤ maxLen) := hide (by unfold maxLen; omega)
      have S2 : Hid ((acc.length + 8) * 1 ≤ 140737488355328) := hide (by omega)
      have T1 : Hid ((acc ++ beN 8 (u64n x)).length + 8 ≤ maxLen) := hide (by rw [List.length_append, beN_len]; unfold maxLen; omega)
      have T2 : Hid (((acc ++ beN 8 (u64n x)).length + 8) * 1 ≤ 140737488355328) := hide (by rw [List.length_append, beN_len]; omega)
      have HW1 := hide (fun (W : World) => wrtO (w := W) (x := x) 8 8 rfl (by omega))
      have HW2 := hide (fun (W : World) => wrtO (w := W) (x := y) 8 8 rfl (by omega))
      clear hlk
      go_wp2_with fail
      with_reducible refine (HW1.out _).mono ?_
      rintro e w4 ⟨g4, rfl, o4, e4⟩
      have A4 := hide (o4.atS len_e8)
      have OB := hide (HO.out.ext e4)
      have E4 := hide (Ext.trans HX.out e4)
      have S3 := hide (ext_size E4.out)
      clear o4 e4 a0 HO HX
      go_upto_region 6 with (at_builtin; refine wpList_append_at _ rfl (.tmp 11) (.tmp 17) 26 rfl w.heap.size 5 i0_ _ 1 Try.underlying26 hi0 hz0 hz1 hz2 rfl (by omega) len_e8 one_e8 _ _ (by rfl) OB.out (some ⟨g4, 0, none⟩) 8 8 _ (by rfl) A4.out S1.out S2.out S3.out ?_; intro v5 w5 o5 g5 _ _; have O5 := hide o5; have G5 := hide g5; clear o5 g5)
      have E5 := hide (OB.out.below E4.out G5.out (Nat.le_refl _))
      obtain ⟨c0, c1⟩ := HPR.out _ E5.out
      clear OB E4 G5 A4 HPR
      go_wp2_with fail
      with_reducible refine (HW2.out _).mono ?_
      rintro e w6 ⟨g6, rfl, o6, e6⟩
      have A6 := hide (o6.atS len_e8)
      have OC := hide (O5.out.ext e6)
      have E6 := hide (Ext.trans E5.out e6)
      have T3 := hide (ext_size E6.out)
      clear o6 e6 c0 c1 O5 E5
      go_wp2_with (at_builtin; refine wpList_append_at _ rfl (.tmp 19) (.tmp 25) 26 rfl w.heap.size 5 i0_ _ 1 Try.underlying26 hi0 hz0 hz1 hz2 rfl (by omega) len_e8 one_e8 _ _ (by rfl) OC.out (some ⟨g6, 0, none⟩) 8 8 _ (by rfl) A6.out T1.out T2.out T3.out ?_; intro v7 w7 o7 g7 _ _; have O7 := hide o7; have G7 := hide g7; clear o7 g7)
      exact ⟨⟨k + 1, by omega, by go_num, hide (by rw [HSU.out]; exact O7.out), hide (OC.out.below E6.out G7.out (Nat.le_refl _))⟩, by simp [intOf]; omega⟩
    · obtain rfl : k = n := by omega
      have HTK : Hid (l.take k = l) := hide (List.take_of_length_le (by have := HL.out; omega))
      go_wp2_with fail
      go_ret
      exact ⟨_, rfl, by have := HO.out; rw [HTK.out] at this; exact this, HX.out⟩
end Go.Proofs.Ytlonhkjplijlcaa
