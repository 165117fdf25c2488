/- Walk of Counter of the program. Conditions: none. -/
import Derived.Test.YtifmgngmkajahaaStreamA
import Derived.Test.YtifmgngmkajahaaChainA
import Derived.Test.YtifmgngmkajahaaRotA
import Derived.Test.YtifmgngmkajahaaKeyG
namespace Go.Proofs.Ytifmgngmkajahaa
open Go.RowKit Kc

/-- So many bytes of a stream, from a place on. -/
def strL (k v : List UInt8) (p n : Nat) : List UInt8 := (List.range n).map fun j => byteAt k v (p + j)
theorem length_strL (k v : List UInt8) (p n : Nat) : (strL k v p n).length = n := by simp [strL]
theorem strL_get (k v : List UInt8) (p n j : Nat) (h : j < n) : (strL k v p n).getD j 0 = byteAt k v (p + j) := by simp [strL, List.getD, h]
/-- Bytes, encrypted by a stream. -/
def ctrL (k v b : List UInt8) (p : Nat) : List UInt8 := xrL b (strL k v p b.length)
theorem StreamAt.far {w : World} {g : Nat} {K : Value} {k v : List UInt8} {p : Nat} (h : StreamAt w g K k v p) {a : Addr} (hne : g ≠ a.block) (u : Value) : StreamAt (w.setCell a u) g K k v p := by
  obtain ⟨blk, r, hB, hr⟩ := h
  exact ⟨blk, r, hB.far hne u, hr⟩
theorem StreamAt.ext {w w' : World} {g : Nat} {K : Value} {k v : List UInt8} {p : Nat} (h : StreamAt w g K k v p) (he : Ext w w') : StreamAt w' g K k v p := by
  obtain ⟨blk, r, hB, hr⟩ := h
  exact ⟨blk, r, hB.ext he, hr⟩
theorem StreamAt.lt {w : World} {g : Nat} {K : Value} {k v : List UInt8} {p : Nat} (h : StreamAt w g K k v p) : g < w.heap.size := by
  obtain ⟨blk, r, hB, hr⟩ := h
  exact hB.lt

set_option maxRecDepth 100000 in
set_option maxHeartbeats 4000000 in
theorem keyCounter_ok {A1 A2 A3 : Option Addr} {c1 c2 n c3 p : Nat} {k v b : List UInt8} {w : World} (h1 : At w 1 e8 A1 16 c1 k) (h2 : At w 1 e8 A2 8 c2 v) (h3 : At w 1 e8 A3 n c3 b) (hn : n ≤ 100000) (hp : p ≤ 1000000000000000) :
    Calls Try.prog 39 #[.slice A1 16 c1, .slice A2 8 c2, .slice A3 n c3, .int .i64 p] w fun e w' => ∃ A c, e = .returned (.tuple #[.slice A n c, .int .i64 0]) ∧ At w' 1 e8 A n c (ctrL k v b p) ∧ Ext w w' := by
  obtain ⟨i0, hi0, hz0, hz1, hz2⟩ := info_parts Try.info5
  have hbl := hide h3.len
  have HK := hide h1; have HI := hide h2; have HB := hide h3
  have hp0 : (0 : Int) ≤ (p : Int) := by omega
  have hp1 : (p : Int) ≤ 1000000000000000 := by omega
  clear h1 h2 h3
  go_enter Try.func39, Try.ntmps39
  go_wp2_with (first | ((go_at_call 89; with_reducible refine (modeFault_ok _ _ _ _ _ _ _ hn _).mono ?_); rintro e w' ⟨rfl, rfl⟩) | ((go_at_call 87; with_reducible refine (out_no ?_ _).mono ?_); (focus omega); rintro e w' ⟨rfl, rfl⟩) | ((go_at_call 87; with_reducible refine (out_yes ?_ _).mono ?_); (focus omega); rintro e w' ⟨rfl, rfl⟩))
  refine (newStream_any (k := k) HI.out).mono ?_
  rintro e w1 ⟨g, rfl, hg, hs, e1⟩
  have S1 := hide hs; have E1 := hide e1
  have z1 := e1.size
  have gl := hs.lt
  clear hs e1
  go_wp2_with (at_make; refine wpList_make_full _ rfl _ _ 22 rfl w1.heap.size 5 i0 _ 1 Try.underlying22 hi0 hz0 hz1 _ _ _ _ n rfl rfl rfl rfl ?b1 ?b2 ?b3 ?_)
  case b1 => rw [hz2]; omega
  case b2 => unfold maxLen; omega
  case b3 => exact Nat.le_refl _
  intro w2 hown hgr
  obtain ⟨m, hm⟩ : ∃ m, m = strL k v p n := ⟨_, rfl⟩
  have e0 : (madeCells #[Value.int .u8 0] n).toList = xrC b m 0 := by rw [xrC_zero, hbl.out]
  have HO : Hid (w2.ownsRow w1.heap.size 5 1 (.slice (some ⟨w1.heap.size, 0, none⟩) n n) n (xrC b m 0)) := by rw [← e0]; exact hown
  have x2 : Ext w1 w2 := grown_ext hgr
  have S2 := hide (S1.out.ext x2)
  have E2 := hide (Ext.trans E1.out x2)
  have HM := hide hm
  clear hown hgr x2 e0 hm S1
  go_wp2_with fail
  go_loopw [33] (fun ri wr => ∃ i : Nat, i ≤ n ∧ ri = .int .i64 i ∧ Hid (wr.ownsRow w1.heap.size 5 1 (.slice (some ⟨w1.heap.size, 0, none⟩) n n) n (xrC b m i)) ∧ Hid (StreamAt wr g (.slice A1 16 c1) k v (p + i)) ∧ Hid (Ext w wr)) (fun i _ => n - (intOf i).toNat)
  case atStart => exact ⟨0, by omega, rfl, HO, S2, E2⟩
  case round =>
    obtain ⟨i, hi, rfl, HO, HS, HX⟩ := hrel
    clear S2 E2
    by_cases hlt : i < n
    · obtain ⟨b3, off3, rfl, _⟩ := HB.out.addr (by omega)
      have a1 := (HB.out.ext HX.out).byte (k := i) hlt
      have hmi : m.getD i 0 = byteAt k v (p + i) := by rw [HM.out]; exact strL_get _ _ _ _ _ hlt
      obtain ⟨x, hxx⟩ : ∃ x, x = b.getD i 0 := ⟨_, rfl⟩
      obtain ⟨y, hyy⟩ : ∃ y, y = byteAt k v (p + i) := ⟨_, rfl⟩
      rw [← hxx] at a1
      have HSET : Hid ((xrC b m i).set i (B8 (x ^^^ y)) = xrC b m (i + 1)) := hide (by rw [hxx, hyy, ← hmi]; exact xrC_set b m i)
      have hnx := next_any (HK.out.ext HX.out) HS.out (by omega)
      rw [← hyy] at hnx
      have HNX := hide hnx
      clear hmi hxx hyy hnx
      go_wp2_with fail
      refine HNX.out.mono ?_
      rintro e w4 ⟨rfl, hs4, g4⟩
      have S4 := hide hs4
      have X4 : Hid (Ext w w4) := hide (Below.grown HX.out g4 (by have := HX.out.size; omega) (fun q h => by have h' : g = q := Option.some.inj h; omega))
      have O4 := HO.out.kept g4 (Or.inr (by simp [Value.ownBlock]; omega))
      have a3 := O4.cellAt i (by omega)
      rw [xrC_get b m i (by have := hbl.out; omega)] at a3
      have a4 := O4.frozenAt i
      have i1 : (i : Int) < (n : Int) := by omega
      have hst := O4.stored i (B8 (x ^^^ y))
      rw [HSET.out] at hst
      have HST := hide hst
      clear hst O4 hs4 g4
      go_wp2
      go_roundw
      case rel => exact ⟨i + 1, by omega, by go_num, by rw [u8_xor']; exact HST.out.1, S4.out.far (by simp; omega) _, Below.setCell X4.out (by simp; omega) _⟩
      case measure => simp [intOf]; omega
    · have hkm : i = n := by omega
      subst hkm
      have HO2 : Hid (wr.ownsRow w1.heap.size 5 1 (.slice (some ⟨w1.heap.size, 0, none⟩) i i) i ((xrL b m).map B8)) := by
        have h := HO.out
        rw [← hbl.out, xrC_all, hbl.out] at h
        exact h
      go_wp2
      go_ret2
      refine ⟨_, _, rfl, ?_, HX.out⟩
      have h := HO2.out
      have hO : Own wr w1.heap.size 5 1 e8 (.slice (some ⟨w1.heap.size, 0, none⟩) i i) (xrL b m) := by
        unfold Own
        rw [flat8, length_xrL, hbl.out]
        exact h
      have q := hO.atS len_e8
      unfold ctrL
      rw [hbl.out, ← HM.out]
      exact q
end Go.Proofs.Ytifmgngmkajahaa
