/- Walk of the document's stream. Conditions: lengths as stated. -/
import Derived.Test.YtifmgngmkajahaaStreamC
import Derived.Test.YtifmgngmkajahaaKeyI
import Derived.Test.YtifmgngmkajahaaSlice
namespace Go.Proofs.Ytifmgngmkajahaa
open Go.RowKit Kc

theorem numU8 (v : List UInt8) (h : v.length = 8) : (numU v).toNat = ivU v := by
  match v, h with
  | [b0, b1, b2, b3, b4, b5, b6, b7], _ =>
    unfold ivU
    have h0 := b0.toNat_lt; have h1 := b1.toNat_lt; have h2 := b2.toNat_lt; have h3 := b3.toNat_lt; have h4 := b4.toNat_lt; have h5 := b5.toNat_lt; have h6 := b6.toNat_lt; have h7 := b7.toNat_lt
    rw [← numU_take _ (by simp), ← numU_take _ (by simp)]
    simp only [List.take, List.drop, numU, List.foldl_cons, List.foldl_nil, UInt64.toNat_add, UInt64.toNat_mul, UInt8.toNat_toUInt64]
    simp
    omega

theorem sizeByte : ∀ W, (Go.sizeOf 5).run Try.prog W = .ok 1 W := fun _ => by kernel_rfl
set_option maxRecDepth 100000 in
set_option maxHeartbeats 2000000 in
theorem stream_any {A1 A2 : Option Addr} {c1 c2 n p : Nat} {k v : List UInt8} {w : World} (h1 : At w 1 e8 A1 16 c1 k) (h2 : At w 1 e8 A2 8 c2 v) (hn : n ≤ 100000) (hp : p ≤ 1000000000000000) :
    Calls Try.prog 99 #[.slice A1 16 c1, .slice A2 8 c2, .int .i64 (p : Int), .int .i64 (n : Int)] w fun e w' => ∃ A c, e = .returned (.slice A n c) ∧ At w' 1 e8 A n c (strL k v p n) ∧ Ext w w' := by
  obtain ⟨i0, hi0, hz0, hz1, hz2⟩ := info_parts Try.info5
  have HNU := hide (numU8 v h2.len)
  have HK := hide h1; have HV := hide h2
  clear h1 h2
  go_enter Try.func99, Try.ntmps99
  go_wp2
  go_loopw [10, 11] (fun ro rk wr => ∃ (I : Nat) (A : Option Addr) (c : Nat), 8 * I ≤ n + 15 ∧ rk = .int .i64 ((p : Int) / 8 + (I : Int)) ∧ ro = .slice A (8 * I) c ∧
      Hid (Own wr w.heap.size 5 1 e8 (.slice A (8 * I) c) (blksL k v (p / 8) I)) ∧ Hid (Ext w wr)) (fun _ rk _ => p / 8 + n + 20 - (intOf rk).toNat)
  case atStart => exact ⟨0, none, 0, by omega, by simp, rfl, hide (Own.nil _ _ _ _ _), hide (Ext.refl _)⟩
  case round =>
    obtain ⟨I, A, c, hI, rfl, rfl, HO, HX⟩ := hrel
    have hlen : Hid ((blksL k v (p / 8) I).length = 8 * I) := hide (length_blksL k v (p / 8) I)
    by_cases hlt : 8 * I < n + 8
    · have hN : ∃ N : Nat, N = (ivU v + (p / 8 + I)) % 18446744073709551616 := ⟨_, rfl⟩
      obtain ⟨N, hN⟩ := hN
      have hw : IntKind.u64.wrap ((ivU v : Int) + ((p : Int) / 8 + (I : Int))) = (N : Int) := by rw [IntKind.wrap_u64, hN]; omega
      have hw2 : IntKind.u64.wrap ((p : Int) / 8 + (I : Int)) = (p : Int) / 8 + (I : Int) := by rw [IntKind.wrap_u64]; omega
      have hNl : N < 18446744073709551616 := by omega
      have HNN := hide hN
      clear hN
      have hnum := number_any (HV.out.ext HX.out)
      rw [HNU.out] at hnum
      have HNB := hide hnum
      clear hnum
      go_wp2_with fail
      refine HNB.out.mono ?_
      rintro e w1 ⟨rfl, rfl⟩
      go_wp2_with fail
      refine (bytesOf_8 N _ hNl).mono ?_
      rintro e w2 ⟨g, rfl, o2, e2⟩
      have X2 := hide (o2.atS len_e8)
      have E2 := hide (Ext.trans HX.out e2)
      have O2 := hide (HO.out.ext e2)
      clear o2 e2
      go_wp2_with fail
      refine (encrypted_any (HK.out.ext E2.out) X2.out (by omega) rfl).mono ?_
      rintro e w3 ⟨A4, c4, rfl, o3, e3⟩
      have hbk : Hid (encB k (beL 8 N) = blkAt k v (p / 8 + I)) := hide (by rw [HNN.out]; rfl)
      rw [hbk.out] at o3
      have X3 := hide (o3.atS len_e8)
      have E3 := hide (Ext.trans E2.out e3)
      have O3 := hide (O2.out.ext e3)
      have z3 := E3.out.size
      clear o3 e3
      go_wp2_with (at_builtin; refine wpList_append_at _ rfl (.tmp 24) (.tmp 32) 22 rfl w.heap.size 5 i0 _ 1 Try.underlying22 hi0 hz0 hz1 hz2 rfl (by omega) len_e8 one_e8 _ (blksL k v (p / 8) I) rfl O3.out (some A4) 8 c4 (blkAt k v (p / 8 + I)) rfl X3.out ?d1 ?d2 ?d3 ?_)
      case d1 => rw [hlen.out]; unfold maxLen; omega
      case d2 => rw [hlen.out]; omega
      case d3 => exact z3
      intro v8 w8 o8 g8 _ _
      rw [← blksL_succ] at o8
      have E8 : Hid (Ext w w8) := hide (O3.out.below E3.out g8 (Nat.le_refl _))
      obtain ⟨A9, c9, hv9, a9⟩ := o8.at_ len_e8
      rw [length_blksL] at hv9
      subst hv9
      have O8 := hide o8
      clear o8 g8 a9
      go_wp2
      go_roundw
      case rel =>
        first
          | exact ⟨I + 1, A9, c9, by omega, by go_num, rfl, O8, E8⟩
          | ((repeat apply Exists.intro); exact ⟨⟨I + 1, A9, c9, by omega, by go_num, rfl, O8, E8⟩, rfl⟩)
      case measure => simp [intOf]; omega
    · have hat := HO.out.atS len_e8
      have hp8 : 0 ≤ (p : Int) % 8 := by omega
      have m1 : (p % 8 : Nat) ≤ p % 8 + n := by omega
      have m2 : p % 8 + n ≤ 8 * I := by omega
      obtain ⟨As, sb, hs⟩ := hat.range_ Try.underlying22 sizeByte m1 m2 ((p : Int) % 8) ((p : Int) % 8 + (n : Int)) (by omega) (by omega)
      have HS := hide hs
      have HAT := hide hat
      have hcut := hide (blksL_cut k v p n I (by omega))
      have e1 : Hid (p % 8 + n - p % 8 = n) := hide (by omega)
      clear hs hat
      go_wp2_with fail
      go_ret
      have q := HS.out _ HAT.out
      rw [e1.out, hcut.out] at q
      exact ⟨As, _, rfl, q, HX.out⟩
end Go.Proofs.Ytifmgngmkajahaa
