/- Walks: given, onTrace, and what they return. Conditions as stated. -/
import Derived.Test.YtajadgpkmommmaaNetC
import Derived.Test.YtajadgpkmommmaaTw
namespace Go.Proofs.Ytajadgpkmommmaa
open Go.RowKit

theorem given_any {A : Option Addr} {n c : Nat} (w : World) :
    Calls Try.prog 28 #[.slice A n c] w fun e w' => e = .returned (.func (.func 48) #[] #[.pointer (some ⟨w.heap.size, 0, none⟩)]) ∧ Blk w' w.heap.size 22 #[.slice A n c] ∧ Ext w w' := by
  go_enter Try.func28, Try.ntmps28
  go_wp2
  go_ret
  exact ⟨rfl, Blk.new _ _ _, Ext.alloc _ _⟩
theorem givenC_any {cA : Option Addr} {cn cc : Nat} {C : List Int} {q n : Nat} {W : World} (hq : W.cell? ⟨q, 0, none⟩ = some (.slice cA cn cc)) (hC : At W 1 e64 cA cn cc C) (hn : n < cn) (a bf b : Int) (lA : Option Addr) (ln lc : Nat) :
    Calls Try.prog 48 #[.agg #[.int .i64 (n : Int), .int .i64 a, .int .i64 bf, .slice lA ln lc, .int .i64 b], .pointer (some ⟨q, 0, none⟩)] W fun e w' => e = .returned (.int .i64 (C.getD n 0)) ∧ Ext W w' := by
  have hb := hC.bound
  obtain ⟨bb, off, rfl, _⟩ := hC.addr (by omega)
  have e0 := hC.num hn
  generalize C.getD n 0 = x at *
  have EA := Ext.alloc W (.cells #[.int .i64 (n : Int), .int .i64 a, .int .i64 bf, .slice lA ln lc, .int .i64 b] 56)
  have q1 := EA.cell hq
  have q2 := EA.cell e0
  have i0 : (0 : Int) ≤ (n : Int) := by omega
  have i1 : (n : Int) < (cn : Int) := by omega
  clear hC EA
  go_enter Try.func48, Try.ntmps48
  go_wp2
  go_ret
  exact ⟨rfl, Ext.alloc _ _⟩
theorem onTrace_any {A : Option Addr} {n c : Nat} (d0 s0 r0 f0 i0 k0 l0 t0 lo0 hi0 a0 x0 y0 z0 : Int) (w : World) :
    Calls Try.prog 22 #[.slice A n c, .agg #[.int .i64 d0, .int .i64 s0, .int .i64 r0, .int .i64 f0, .int .i64 i0, .int .i64 k0, .int .i64 l0, .int .i64 t0, .int .i64 lo0, .int .i64 hi0, .int .i64 a0, .int .i64 x0, .int .i64 y0, .int .i64 z0]] w fun e w' => e = .returned (.func (.func 45) #[] #[.pointer (some ⟨w.heap.size, 0, none⟩), .pointer (some ⟨w.heap.size + 1, 0, none⟩)]) ∧ (Blk w' w.heap.size 26 #[.slice A n c] ∧ Blk w' (w.heap.size + 1) 30 #[.int .i64 d0, .int .i64 s0, .int .i64 r0, .int .i64 f0, .int .i64 i0, .int .i64 k0, .int .i64 l0, .int .i64 t0, .int .i64 lo0, .int .i64 hi0, .int .i64 a0, .int .i64 x0, .int .i64 y0, .int .i64 z0]) ∧ Ext w w' := by
  go_enter Try.func22, Try.ntmps22
  go_wp2
  go_ret
  refine ⟨rfl, ⟨(Blk.new _ _ _).alloc _, ?_⟩, ext_alloc (Ext.alloc _ _) _⟩
  have := Blk.new (w.alloc (.cells #[.slice A n c] 26)) 30 #[.int .i64 d0, .int .i64 s0, .int .i64 r0, .int .i64 f0, .int .i64 i0, .int .i64 k0, .int .i64 l0, .int .i64 t0, .int .i64 lo0, .int .i64 hi0, .int .i64 a0, .int .i64 x0, .int .i64 y0, .int .i64 z0]
  rwa [World.size_alloc] at this
theorem onTraceC_any {A : Option Addr} {n c : Nat} {l : List (Int × Int)} {q1 q2 : Nat} {d : Int} {W : World} (h1 : W.cell? ⟨q1, 0, none⟩ = some (.slice A n c)) (h2 : W.cell? ⟨q2, 0, none⟩ = some (.int .i64 d)) (h : At W 2 e2 A n c l) (hz : trcF l = 0) {a z : Int} (ha : 0 ≤ a ∧ a ≤ 1000000000000000000) (hd : 0 ≤ d ∧ d ≤ 100000) (hf : 0 ≤ a + d ∧ a + d ≤ 2000000000000) (hb : 0 ≤ z ∧ z ≤ 1000000000) :
    Calls Try.prog 45 #[.int .i64 a, .int .i64 z, .pointer (some ⟨q1, 0, none⟩), .pointer (some ⟨q2, 0, none⟩)] W fun e w' => e = .returned (.int .i64 (endsP l (a + d) z)) ∧ Ext W w' := by
  have HE := hide (fun (W' : World) (hW : Ext W W') => keyEndsIn_any (h.ext hW) hz hf hb)
  obtain ⟨ha1, ha2⟩ := ha
  obtain ⟨hd1, hd2⟩ := hd
  clear h hz hf hb
  go_enter Try.func45, Try.ntmps45
  go_wp2_with fail
  refine (HE.out _ (Ext.refl _)).mono ?_
  rintro e w' ⟨rfl, e1⟩
  go_wp2
  go_ret
  exact ⟨rfl, e1⟩
end Go.Proofs.Ytajadgpkmommmaa
