/- Walks: xor of the program. Conditions: lengths as stated. -/
import Derived.Test.YtfpmjaeehhegcaaKeyD
namespace Go.Proofs.Ytfpmjaeehhegcaa
open Go.RowKit Kc

/-- A list of bytes, its cells by their number. -/
theorem At.byte {w : World} {b off n c : Nat} {l : List UInt8} (h : At w 1 e8 (some ⟨b, off, none⟩) n c l) {k : Nat} (hk : k < n) : w.cell? ⟨b, off + k, none⟩ = some (B8 (l.getD k 0)) := by
  have hl := h.len
  obtain ⟨b', off', e, hc⟩ := h.cells k _ (List.getElem?_eq_getElem (by omega))
  injection e with e
  injection e with e1 e2
  subst e1 e2
  have := hc 0 _ rfl
  rw [show l.getD k 0 = l[k]'(by omega) by simp [List.getD, show k < l.length by omega]]
  simpa using this
theorem u8_xor' (a b : UInt8) : bits .xor .u8 (a.toNat : Int) (b.toNat : Int) = ((a ^^^ b).toNat : Int) := by
  rw [u8_xor_nat _ _ (u8lt a) (u8lt b), UInt8.toNat_xor]
/-- The first eight bytes, xored. -/
def xor8 (l m : List UInt8) : List UInt8 := (List.range 8).map fun j => l.getD j 0 ^^^ m.getD j 0
/-- .. as far as k. -/
def xc (l m : List UInt8) (k : Nat) : Array Value := ((List.range 8).map fun j => if j < k then B8 ((xor8 l m).getD j 0) else .int .u8 0).toArray
theorem xc_set (l m : List UInt8) (k : Nat) (hk : k < 8) : (xc l m k).setIfInBounds k (B8 (l.getD k 0 ^^^ m.getD k 0)) = xc l m (k + 1) := by
  match k, hk with
  | 0, _ | 1, _ | 2, _ | 3, _ | 4, _ | 5, _ | 6, _ | 7, _ => rfl
theorem xc_get (l m : List UInt8) (k : Nat) (hk : k < 8) : (xc l m k)[k]? = some (.int .u8 0) := by
  match k, hk with
  | 0, _ | 1, _ | 2, _ | 3, _ | 4, _ | 5, _ | 6, _ | 7, _ => rfl

theorem u8_val (l m : List UInt8) (k : Nat) : Value.int .u8 (bits .xor .u8 ((l.getD k 0).toNat : Int) ((m.getD k 0).toNat : Int)) = B8 (l.getD k 0 ^^^ m.getD k 0) := by rw [u8_xor']

set_option maxHeartbeats 1000000 in
theorem xor_any {A1 A2 : Option Addr} {n1 c1 n2 c2 : Nat} {l m : List UInt8} {w : World} (h1 : At w 1 e8 A1 n1 c1 l) (h2 : At w 1 e8 A2 n2 c2 m) (hn1 : 8 ≤ n1) (hn2 : 8 ≤ n2) :
    Calls Try.prog 48 #[.slice A1 n1 c1, .slice A2 n2 c2] w fun e w' => e = .returned (agg8 (xor8 l m)) ∧ Ext w w' := by
  have hb1 := h1.bound
  have hb2 := h2.bound
  obtain ⟨b, off, rfl, _⟩ := h1.addr (by omega)
  obtain ⟨b2, off2, rfl, _⟩ := h2.addr (by omega)
  have H1 := hide h1; have H2 := hide h2
  clear h1 h2
  go_enter Try.func48, Try.ntmps48
  go_wp2_with fail
  have B0 := ((Blk.new w 86 #[.int .u8 0, .int .u8 0, .int .u8 0, .int .u8 0, .int .u8 0, .int .u8 0, .int .u8 0, .int .u8 0]).alloc (Obj.cells #[.int .u8 0, .int .u8 0, .int .u8 0, .int .u8 0, .int .u8 0, .int .u8 0, .int .u8 0, .int .u8 0] 86))
  have B1 : Blk ((w.alloc (Obj.cells #[.int .u8 0, .int .u8 0, .int .u8 0, .int .u8 0, .int .u8 0, .int .u8 0, .int .u8 0, .int .u8 0] 86)).alloc (Obj.cells #[.int .u8 0, .int .u8 0, .int .u8 0, .int .u8 0, .int .u8 0, .int .u8 0, .int .u8 0, .int .u8 0] 86)) (w.heap.size + 1) 86 (xc l m 0) := by
    have h := Blk.new (w.alloc (Obj.cells #[.int .u8 0, .int .u8 0, .int .u8 0, .int .u8 0, .int .u8 0, .int .u8 0, .int .u8 0, .int .u8 0] 86)) 86 #[.int .u8 0, .int .u8 0, .int .u8 0, .int .u8 0, .int .u8 0, .int .u8 0, .int .u8 0, .int .u8 0]
    rw [World.size_alloc] at h
    exact h
  have X0 : Ext w ((w.alloc (Obj.cells #[.int .u8 0, .int .u8 0, .int .u8 0, .int .u8 0, .int .u8 0, .int .u8 0, .int .u8 0, .int .u8 0] 86)).alloc (Obj.cells #[.int .u8 0, .int .u8 0, .int .u8 0, .int .u8 0, .int .u8 0, .int .u8 0, .int .u8 0, .int .u8 0] 86)) := (by repeat' (first | (with_reducible exact Below.refl _ _) | (with_reducible assumption) | (with_reducible refine below_drewN ?_ _) | (with_reducible refine Below.drew ?_) | (with_reducible refine ext_alloc ?_ _) | (with_reducible refine Below.setCell ?_ ?_ _) | go_size))
  have HB0 := hide B0; have HB1 := hide B1; have HX0 := hide X0
  clear B0 B1 X0
  go_loopw [7] (fun ri wr => ∃ k : Nat, k ≤ 8 ∧ ri = .int .i64 k ∧ Hid (Blk wr w.heap.size 86 #[.int .u8 0, .int .u8 0, .int .u8 0, .int .u8 0, .int .u8 0, .int .u8 0, .int .u8 0, .int .u8 0]) ∧
      Hid (Blk wr (w.heap.size + 1) 86 (xc l m k)) ∧ Hid (Ext w wr)) (fun i _ => 8 - (intOf i).toNat)
  case atStart => exact ⟨0, by omega, rfl, HB0, HB1, HX0⟩
  case round =>
    obtain ⟨k, hk, rfl, HC0, HC, HX⟩ := hrel
    clear HB0 HB1 HX0
    by_cases hlt : k < 8
    · have a1 := (H1.out.ext HX.out).byte (k := k) (by omega)
      have a2 := (H2.out.ext HX.out).byte (k := k) (by omega)
      have a3 : wr.cell? ⟨w.heap.size + 1, k, none⟩ = some (.int .u8 0) := by rw [HC.out.cell]; exact xc_get l m k hlt
      have a4 := HC.out.frozen k
      have i1 : (k : Int) < (n1 : Int) := by omega
      have i2 : (k : Int) < (n2 : Int) := by omega
      have i3 : (k : Int) < 8 := by omega
      go_wp2
      go_region
      go_wp2
      go_roundw
      case rel => exact ⟨k + 1, by omega, by go_num, HC0.out.drew.far (by simp) _, by rw [← xc_set l m k hlt, ← u8_val l m k]; exact HC.out.drew.set_ k _, Below.setCell (Below.drew HX.out) (by simp) _⟩
      case measure => simp [intOf]; omega
    · have hk8 : k = 8 := by omega
      subst hk8
      have q0 : wr.cell? ⟨w.heap.size + 1, 0, none⟩ = some (B8 ((xor8 l m).getD 0 0)) := HC.out.cell 0
      have z0 : wr.cell? ⟨w.heap.size, 0, none⟩ = some (.int .u8 0) := HC0.out.cell 0
      have q1 : wr.cell? ⟨w.heap.size + 1, 1, none⟩ = some (B8 ((xor8 l m).getD 1 0)) := HC.out.cell 1
      have z1 : wr.cell? ⟨w.heap.size, 1, none⟩ = some (.int .u8 0) := HC0.out.cell 1
      have q2 : wr.cell? ⟨w.heap.size + 1, 2, none⟩ = some (B8 ((xor8 l m).getD 2 0)) := HC.out.cell 2
      have z2 : wr.cell? ⟨w.heap.size, 2, none⟩ = some (.int .u8 0) := HC0.out.cell 2
      have q3 : wr.cell? ⟨w.heap.size + 1, 3, none⟩ = some (B8 ((xor8 l m).getD 3 0)) := HC.out.cell 3
      have z3 : wr.cell? ⟨w.heap.size, 3, none⟩ = some (.int .u8 0) := HC0.out.cell 3
      have q4 : wr.cell? ⟨w.heap.size + 1, 4, none⟩ = some (B8 ((xor8 l m).getD 4 0)) := HC.out.cell 4
      have z4 : wr.cell? ⟨w.heap.size, 4, none⟩ = some (.int .u8 0) := HC0.out.cell 4
      have q5 : wr.cell? ⟨w.heap.size + 1, 5, none⟩ = some (B8 ((xor8 l m).getD 5 0)) := HC.out.cell 5
      have z5 : wr.cell? ⟨w.heap.size, 5, none⟩ = some (.int .u8 0) := HC0.out.cell 5
      have q6 : wr.cell? ⟨w.heap.size + 1, 6, none⟩ = some (B8 ((xor8 l m).getD 6 0)) := HC.out.cell 6
      have z6 : wr.cell? ⟨w.heap.size, 6, none⟩ = some (.int .u8 0) := HC0.out.cell 6
      have q7 : wr.cell? ⟨w.heap.size + 1, 7, none⟩ = some (B8 ((xor8 l m).getD 7 0)) := HC.out.cell 7
      have z7 : wr.cell? ⟨w.heap.size, 7, none⟩ = some (.int .u8 0) := HC0.out.cell 7
      have fz := HC0.out.frozen
      generalize hx : xor8 l m = x at *
      have HXX := hide hx
      clear hx
      go_wp2
      refine bodyPost_ret (ret8 (l := x) Try.results48 _ rfl (HC0.out.set8 _ _ _ _ _ _ _ _)) rfl ⟨?_, ?_⟩
      · rw [HXX.out]
      · have X3 := HX.out
        exact (by repeat' (first | (with_reducible exact Below.refl _ _) | (with_reducible assumption) | (with_reducible refine below_drewN ?_ _) | (with_reducible refine Below.drew ?_) | (with_reducible refine ext_alloc ?_ _) | (with_reducible refine Below.setCell ?_ ?_ _) | go_size))
end Go.Proofs.Ytfpmjaeehhegcaa
