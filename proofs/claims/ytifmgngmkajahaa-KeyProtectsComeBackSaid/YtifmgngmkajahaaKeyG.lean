/- Walks of the reference's bytesOf and xored: lists that the call makes. Conditions: lengths as stated. -/
import Derived.Test.YtifmgngmkajahaaKeyF
namespace Go.Proofs.Ytifmgngmkajahaa
open Go.RowKit Kc

theorem Try.info5 : (Try.prog.info? 5).map (fun i => (i.zero, i.size, i.bytes)) = some (some (.int .u8 0), 1, 1) := by kernel_rfl
/-- A number's bytes, so many, the most significant one first. -/
def beL (many x : Nat) : List UInt8 := (List.range many).map fun j => UInt8.ofNat (x / 256 ^ (many - 1 - j))
/-- .. as far as k of them, from the end, are written. -/
def beC (many x k : Nat) : List Value := (List.range many).map fun j => if many - k ≤ j then B8 (UInt8.ofNat (x / 256 ^ (many - 1 - j))) else .int .u8 0
theorem beC_set (many x k : Nat) (hk : k < many) : (beC many x k).set (many - 1 - k) (B8 (UInt8.ofNat (x / 256 ^ k))) = beC many x (k + 1) := by
  apply List.ext_getElem
  · simp [beC]
  · intro i h1 h2
    simp only [beC, List.length_set, List.length_map, List.length_range] at h1
    simp only [beC, List.getElem_set, List.getElem_map, List.getElem_range]
    by_cases e : many - 1 - k = i
    · subst e
      rw [if_pos rfl, if_pos (by omega), show many - 1 - (many - 1 - k) = k by omega]
    · rw [if_neg e]
      by_cases e2 : many - k ≤ i
      · rw [if_pos e2, if_pos (by omega)]
      · rw [if_neg e2, if_neg (by omega)]
theorem beC_all (many x : Nat) : beC many x many = (beL many x).map B8 := by
  apply List.ext_getElem <;> simp [beC, beL]
theorem beC_zero (many x : Nat) : beC many x 0 = (madeCells #[Value.int .u8 0] many).toList := by
  apply List.ext_getElem
  · simp [beC, madeCells]
  · intro i h1 h2
    simp only [beC, List.length_map, List.length_range] at h1
    simp [beC, madeCells, Nat.mod_one]
    omega
theorem beC_get (many x k : Nat) (hk : k < many) : (beC many x k)[many - 1 - k]? = some (.int .u8 0) := by
  simp only [beC, List.getElem?_map, List.getElem?_range (show many - 1 - k < many by omega)]
  simp; omega
theorem length_beL (many x : Nat) : (beL many x).length = many := by simp [beL]

set_option maxHeartbeats 1000000 in
theorem bytesOf_any (x many : Nat) (w : World) (hx : x < 18446744073709551616) (hm : 1 ≤ many) (hm2 : many ≤ 8) :
    Calls Try.prog 81 #[.int .u64 (x : Int), .int .i64 (many : Int)] w fun e w' => ∃ g, e = .returned (.slice (some ⟨g, 0, none⟩) many many) ∧ Own w' w.heap.size 5 1 e8 (.slice (some ⟨g, 0, none⟩) many many) (beL many x) ∧ Ext w w' := by
  obtain ⟨i0, hi0, hz0, hz1, hz2⟩ := info_parts Try.info5
  go_enter Try.func81, Try.ntmps81
  go_wp2_with (at_make; refine wpList_make_full _ rfl _ _ 22 rfl w.heap.size 5 i0 _ 1 Try.underlying22 hi0 hz0 hz1 _ _ _ _ many rfl rfl rfl rfl ?b1 ?b2 ?b3 ?_)
  case b1 => rw [hz2]; omega
  case b2 => unfold maxLen; omega
  case b3 => exact Nat.le_refl _
  intro w1 hown hg
  rw [← beC_zero many x] at hown
  have HO := hide hown
  have X1 : Ext w w1 := (Below.refl _ _).grown hg (Nat.le_refl _) (fun k h => by cases h)
  have HX := hide X1
  clear hown hg X1
  go_wp2_with fail
  go_loopw [0, 10] (fun rx ri wr => ∃ k : Nat, k ≤ many ∧ ri = .int .i64 k ∧ (∃ y : Nat, rx = .int .u64 (y : Int) ∧ Hid (y = x / 256 ^ k)) ∧
      Hid (wr.ownsRow w.heap.size 5 1 (.slice (some ⟨w.heap.size, 0, none⟩) many many) many (beC many x k)) ∧ Hid (Ext w wr)) (fun _ i _ => many - (intOf i).toNat)
  case atStart => exact ⟨0, by omega, rfl, ⟨x, rfl, hide (by simp)⟩, HO, HX⟩
  case round =>
    obtain ⟨k, hk, rfl, ⟨y, rfl, HY⟩, HO, HX⟩ := hrel
    by_cases hlt : k < many
    · have hc := HO.out.cellAt (many - 1 - k) (by omega)
      rw [beC_get many x k hlt] at hc
      have hf := HO.out.frozenAt (many - 1 - k)
      have hy : y < 18446744073709551616 := by rw [HY.out]; exact Nat.lt_of_le_of_lt (Nat.div_le_self _ _) hx
      have hyy := hide hy
      have hst := hide (HO.out.stored (many - 1 - k) (B8 (UInt8.ofNat (x / 256 ^ k))))
      have hy2 : y / 256 = x / 256 ^ (k + 1) := by rw [HY.out, Nat.div_div_eq_div_mul, Nat.pow_succ]
      have HY2 := hide hy2
      clear hy2 hy
      go_wp2
      have hv : Value.int .u8 ((y : Int) % 256) = B8 (UInt8.ofNat (x / 256 ^ k)) := by rw [← HY.out]; exact int_val (by simp)
      go_roundw
      case rel => exact ⟨k + 1, by omega, by go_num, ⟨y / 256, int_val (by have := hyy.out; rw [IntKind.wrap_u64]; omega), HY2.out⟩, by rw [hv, ← beC_set many x k hlt]; exact hst.out.1, Below.setCell HX.out (Nat.le_refl _) _⟩
      case measure => simp [intOf]; omega
    · have hkm : k = many := by omega
      subst hkm
      rw [beC_all] at HO
      go_wp2
      go_ret
      refine ⟨_, rfl, ?_, HX.out⟩
      have h := HO.out
      unfold Own
      rw [flat8, length_beL]
      exact h

theorem bytesOf_4 (x : Nat) (w : World) (hx : x < 18446744073709551616) :
    Calls Try.prog 81 #[.int .u64 (x : Int), .int .i64 4] w fun e w' => ∃ g, e = .returned (.slice (some ⟨g, 0, none⟩) 4 4) ∧ Own w' w.heap.size 5 1 e8 (.slice (some ⟨g, 0, none⟩) 4 4) (beL 4 x) ∧ Ext w w' := bytesOf_any x 4 w hx (by omega) (by omega)
theorem bytesOf_8 (x : Nat) (w : World) (hx : x < 18446744073709551616) :
    Calls Try.prog 81 #[.int .u64 (x : Int), .int .i64 8] w fun e w' => ∃ g, e = .returned (.slice (some ⟨g, 0, none⟩) 8 8) ∧ Own w' w.heap.size 5 1 e8 (.slice (some ⟨g, 0, none⟩) 8 8) (beL 8 x) ∧ Ext w w' := bytesOf_any x 8 w hx (by omega) (by omega)
/-- Two lists, xored one by one, as far as k. -/
def xrL (l m : List UInt8) : List UInt8 := (List.range l.length).map fun j => l.getD j 0 ^^^ m.getD j 0
def xrC (l m : List UInt8) (k : Nat) : List Value := (List.range l.length).map fun j => if j < k then B8 (l.getD j 0 ^^^ m.getD j 0) else .int .u8 0
theorem length_xrL (l m : List UInt8) : (xrL l m).length = l.length := by simp [xrL]
theorem xrC_zero (l m : List UInt8) : xrC l m 0 = (madeCells #[Value.int .u8 0] l.length).toList := by
  apply List.ext_getElem
  · simp [xrC, madeCells]
  · intro i h1 h2
    simp [xrC, madeCells, Nat.mod_one]
theorem xrC_all (l m : List UInt8) : xrC l m l.length = (xrL l m).map B8 := by
  apply List.ext_getElem
  · simp [xrC, xrL]
  · intro i h1 h2
    simp only [xrC, List.length_map, List.length_range] at h1
    simp [xrC, xrL, h1]
theorem xrC_get (l m : List UInt8) (k : Nat) (hk : k < l.length) : (xrC l m k)[k]? = some (.int .u8 0) := by
  simp [xrC, List.getElem?_map, List.getElem?_range hk]
theorem xrC_set (l m : List UInt8) (k : Nat) : (xrC l m k).set k (B8 (l.getD k 0 ^^^ m.getD k 0)) = xrC l m (k + 1) := by
  apply List.ext_getElem
  · simp [xrC]
  · intro i h1 h2
    simp only [xrC, List.getElem_set, List.getElem_map, List.getElem_range]
    by_cases e : k = i
    · subst e; simp
    · rw [if_neg e]
      by_cases e2 : i < k
      · rw [if_pos e2, if_pos (by omega)]
      · rw [if_neg e2, if_neg (by omega)]

set_option maxHeartbeats 1000000 in
theorem xored_any {A1 A2 : Option Addr} {n1 c1 n2 c2 : Nat} {l m : List UInt8} {w : World} (h1 : At w 1 e8 A1 n1 c1 l) (h2 : At w 1 e8 A2 n2 c2 m) (hn2 : n1 ≤ n2) (hb : n1 ≤ 281474976710656) :
    Calls Try.prog 82 #[.slice A1 n1 c1, .slice A2 n2 c2] w fun e w' => ∃ g, e = .returned (.slice (some ⟨g, 0, none⟩) n1 n1) ∧ Own w' w.heap.size 5 1 e8 (.slice (some ⟨g, 0, none⟩) n1 n1) (xrL l m) ∧ Ext w w' := by
  obtain ⟨i0, hi0, hz0, hz1, hz2⟩ := info_parts Try.info5
  have hb1 := h1.bound
  have hb2 := h2.bound
  have hl1 := h1.len
  have hl2 := h2.len
  have H1 := hide h1; have H2 := hide h2
  clear h1 h2
  go_enter Try.func82, Try.ntmps82
  go_wp2_with (at_make; refine wpList_make_full _ rfl _ _ 22 rfl w.heap.size 5 i0 _ 1 Try.underlying22 hi0 hz0 hz1 _ _ _ _ n1 rfl rfl rfl rfl ?b1 ?b2 ?b3 ?_)
  case b1 => rw [hz2]; omega
  case b2 => unfold maxLen; omega
  case b3 => exact Nat.le_refl _
  intro w1 hown hg
  have e0 : (madeCells #[Value.int .u8 0] n1).toList = xrC l m 0 := by rw [xrC_zero, hl1]
  have HO : Hid (w1.ownsRow w.heap.size 5 1 (.slice (some ⟨w.heap.size, 0, none⟩) n1 n1) n1 (xrC l m 0)) := by
    rw [← e0]; exact hown
  have X1 : Ext w w1 := (Below.refl _ _).grown hg (Nat.le_refl _) (fun k h => by cases h)
  have HX := hide X1
  have HL1 := hide hl1
  have HL2 := hide hl2
  clear hown hg X1 e0 hl1 hl2
  go_wp2_with fail
  go_loopw [12] (fun ri wr => ∃ k : Nat, k ≤ n1 ∧ ri = .int .i64 k ∧
      Hid (wr.ownsRow w.heap.size 5 1 (.slice (some ⟨w.heap.size, 0, none⟩) n1 n1) n1 (xrC l m k)) ∧ Hid (Ext w wr)) (fun i _ => n1 - (intOf i).toNat)
  case atStart => exact ⟨0, by omega, rfl, HO, HX⟩
  case round =>
    obtain ⟨k, hk, rfl, HO, HX⟩ := hrel
    by_cases hlt : k < n1
    · obtain ⟨b, off, rfl, _⟩ := H1.out.addr (by omega)
      obtain ⟨b2, off2, rfl, _⟩ := H2.out.addr (by omega)
      have a1 := (H1.out.ext HX.out).byte (k := k) (by omega)
      have a2 := (H2.out.ext HX.out).byte (k := k) (by omega)
      have a3 := HO.out.cellAt k (by omega)
      rw [xrC_get l m k (by have := HL1.out; omega)] at a3
      have a4 := HO.out.frozenAt k
      have i1 : (k : Int) < (n1 : Int) := by omega
      have i2 : (k : Int) < (n2 : Int) := by omega
      have hst := HO.out.drew.stored k (B8 (l.getD k 0 ^^^ m.getD k 0))
      rw [xrC_set l m k] at hst
      have HST := hide hst
      generalize hx : l.getD k 0 = x at *
      generalize hy : m.getD k 0 = y at *
      clear hx hy hst
      go_wp2
      go_region
      go_wp2
      go_roundw
      case rel => exact ⟨k + 1, by omega, by go_num, by rw [u8_xor']; exact HST.out.1, Below.setCell (Below.drew HX.out) (Nat.le_refl _) _⟩
      case measure => simp [intOf]; omega
    · have hkm : k = n1 := by omega
      subst hkm
      have HO2 : Hid (wr.ownsRow w.heap.size 5 1 (.slice (some ⟨w.heap.size, 0, none⟩) k k) k ((xrL l m).map B8)) := by
        have h := HO.out
        rw [← HL1.out, xrC_all, HL1.out] at h
        exact h
      go_wp2
      go_ret
      refine ⟨_, rfl, ?_, HX.out⟩
      have h := HO2.out
      unfold Own
      rw [flat8, length_xrL, HL1.out]
      exact h
end Go.Proofs.Ytifmgngmkajahaa
