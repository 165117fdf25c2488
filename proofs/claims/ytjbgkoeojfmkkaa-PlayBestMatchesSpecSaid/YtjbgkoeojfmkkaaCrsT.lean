/- Three appends that come up in any order: what holds meanwhile. Conditions as stated. -/
import Derived.Test.YtjbgkoeojfmkkaaCrsC
import Derived.Test.YtjbgkoeojfmkkaaHeldW
import Derived.Test.YtjbgkoeojfmkkaaStep
namespace Go.Proofs.Ytjbgkoeojfmkkaa
open Go.RowKit
/-- What holds while the three appends come up: s_j = 0 nothing yet, 1 the new element is made, 2 it is appended. -/
def ThrI (w W : World) (N : Nat) (lA : Option Addr) (ln lc : Nat) (sA : Option Addr) (sn sc : Nat) (qA : Option Addr) (qn qc : Nat) (d0 s0 r0 f0 i0 k0 l0 t0 lo0 hi0 a0 x0 y0 z0 gw gb : Int) (v1 v2 v3 st ld : Value) (x1 : WaT) (F : FoT) (rn a t : Int) (s1 s2 s3 : Nat) (B1 A1 B2 A2 B3 A3 : Value) : Prop :=
  RndR w W lA ln lc sA sn sc qA qn qc d0 s0 r0 f0 i0 k0 l0 t0 lo0 hi0 a0 x0 y0 z0 gw gb v1 v2 v3 (if s1 = 2 then A1 else v1) (if s2 = 2 then A2 else v2) (if s3 = 2 then A3 else v3) st ld { w := x1, loads := F.loads, ch := if s1 = 2 then F.ch ++ [rn] else F.ch, asd := if s2 = 2 then F.asd ++ [a] else F.asd, arr := if s3 = 2 then F.arr ++ [t] else F.arr, before := F.before } ∧ N ≤ W.heap.size ∧
  (s1 = 1 → ∃ p, B1 = .slice (some ⟨p, 0, none⟩) 1 1 ∧ At W 1 e64 (some ⟨p, 0, none⟩) 1 1 [rn] ∧ N ≤ p) ∧ (s2 = 1 → ∃ p, B2 = .slice (some ⟨p, 0, none⟩) 1 1 ∧ At W 1 e64 (some ⟨p, 0, none⟩) 1 1 [a] ∧ N ≤ p) ∧ (s3 = 1 → ∃ p, B3 = .slice (some ⟨p, 0, none⟩) 1 1 ∧ At W 1 e64 (some ⟨p, 0, none⟩) 1 1 [t] ∧ N ≤ p) ∧
  (s1 = 2 → ∃ A c, A1 = .slice A (F.ch.length + 1) c) ∧ (s2 = 2 → ∃ A c, A2 = .slice A (F.asd.length + 1) c) ∧ (s3 = 2 → ∃ A c, A3 = .slice A (F.arr.length + 1) c)
theorem three_in : ∀ i s1 s2 s3, i ∈ threeR 4 5 10 11 16 17 s1 s2 s3 → (i = 4 ∧ s1 = 0 ∨ i = 5 ∧ s1 = 1) ∧ (i = 4 ∨ i = 5) ∨ ¬ (i = 4 ∨ i = 5) ∧ (i = 10 ∨ i = 11) ∧ (s2 = 0 ∨ s2 = 1 ∧ s1 = 2) ∨ ¬ (i = 4 ∨ i = 5) ∧ ¬ (i = 10 ∨ i = 11) ∧ (s3 = 0 ∨ s3 = 1 ∧ s2 = 2) := by
  intro i s1 s2 s3 hI
  unfold threeR at hI
  simp only [List.mem_append] at hI
  rcases hI with (hI | hI) | hI <;> (split at hI) <;> (try split at hI) <;> simp at hI <;> omega
theorem three_in2 {i s1 s2 s3 : Nat} (hI : i ∈ threeR 4 5 10 11 16 17 s1 s2 s3) : (i = 4 ∧ s1 = 0) ∨ (i = 5 ∧ s1 = 1) ∨ (i = 10 ∧ s2 = 0) ∨ (i = 11 ∧ s2 = 1 ∧ s1 = 2) ∨ (i = 16 ∧ s3 = 0) ∨ (i = 17 ∧ s3 = 1 ∧ s1 = 2 ∧ s2 = 2) := by
  unfold threeR at hI
  simp only [List.mem_append] at hI
  rcases hI with (hI | hI) | hI <;> (split at hI) <;> (try split at hI) <;> simp at hI <;> omega
theorem three_cases {p : Nat → Nat → Nat → Prop} (h000 : p 0 0 0) (h001 : p 0 0 1) (h010 : p 0 1 0) (h011 : p 0 1 1) (h100 : p 1 0 0) (h101 : p 1 0 1) (h110 : p 1 1 0) (h111 : p 1 1 1) (h200 : p 2 0 0) (h201 : p 2 0 1) (h210 : p 2 1 0) (h211 : p 2 1 1) (h220 : p 2 2 0) (h221 : p 2 2 1) :
    ∀ s1 s2 s3, s1 ≤ 2 → s2 ≤ 2 → s3 ≤ 2 → (s2 = 2 → s1 = 2) → (s3 = 2 → s2 = 2) → ¬ (s1 = 2 ∧ s2 = 2 ∧ s3 = 2) → p s1 s2 s3 := by
  intro s1 s2 s3 h1 h2 h3 h4 h5 h6
  obtain rfl | rfl | rfl : s1 = 0 ∨ s1 = 1 ∨ s1 = 2 := by omega
  all_goals (obtain rfl | rfl | rfl : s2 = 0 ∨ s2 = 1 ∨ s2 = 2 := by omega)
  all_goals (obtain rfl | rfl | rfl : s3 = 0 ∨ s3 = 1 ∨ s3 = 2 := by omega)
  all_goals first | assumption | (exfalso; omega)
theorem three_set20 : ∀ i s1 s2 s3, s1 ≤ 2 → s2 ≤ 2 → s3 ≤ 2 → i ∈ threeR 4 5 10 11 16 17 s1 s2 s3 → (threeL (((((((((((((Array.replicate 27 false).setIfInBounds 0 true).setIfInBounds 1 true).setIfInBounds 2 true).setIfInBounds 3 true).setIfInBounds 6 true).setIfInBounds 7 true).setIfInBounds 8 true).setIfInBounds 9 true).setIfInBounds 12 true).setIfInBounds 13 true).setIfInBounds 14 true).setIfInBounds 15 true) 4 5 10 11 16 17 s1 s2 s3).setIfInBounds i true =
      (if i = 4 ∨ i = 5 then threeL (((((((((((((Array.replicate 27 false).setIfInBounds 0 true).setIfInBounds 1 true).setIfInBounds 2 true).setIfInBounds 3 true).setIfInBounds 6 true).setIfInBounds 7 true).setIfInBounds 8 true).setIfInBounds 9 true).setIfInBounds 12 true).setIfInBounds 13 true).setIfInBounds 14 true).setIfInBounds 15 true) 4 5 10 11 16 17 (s1 + 1) s2 s3 else if i = 10 ∨ i = 11 then threeL (((((((((((((Array.replicate 27 false).setIfInBounds 0 true).setIfInBounds 1 true).setIfInBounds 2 true).setIfInBounds 3 true).setIfInBounds 6 true).setIfInBounds 7 true).setIfInBounds 8 true).setIfInBounds 9 true).setIfInBounds 12 true).setIfInBounds 13 true).setIfInBounds 14 true).setIfInBounds 15 true) 4 5 10 11 16 17 s1 (s2 + 1) s3 else threeL (((((((((((((Array.replicate 27 false).setIfInBounds 0 true).setIfInBounds 1 true).setIfInBounds 2 true).setIfInBounds 3 true).setIfInBounds 6 true).setIfInBounds 7 true).setIfInBounds 8 true).setIfInBounds 9 true).setIfInBounds 12 true).setIfInBounds 13 true).setIfInBounds 14 true).setIfInBounds 15 true) 4 5 10 11 16 17 s1 s2 (s3 + 1)) := by
  intro i s1 s2 s3 h1 h2 h3 hI
  obtain rfl | rfl | rfl : s1 = 0 ∨ s1 = 1 ∨ s1 = 2 := by omega
  all_goals (obtain rfl | rfl | rfl : s2 = 0 ∨ s2 = 1 ∨ s2 = 2 := by omega)
  all_goals (obtain rfl | rfl | rfl : s3 = 0 ∨ s3 = 1 ∨ s3 = 2 := by omega)
  all_goals (simp [threeR] at hI)
  all_goals first | (subst hI; kernel_rfl) | (rcases hI with rfl | rfl <;> kernel_rfl) | (rcases hI with rfl | rfl | rfl <;> kernel_rfl)
theorem wanted_step {o : Oper} {y : Nat → Option Bool} {A B : Prop} (hgd : o.guard = none) (h : A) : if Region.wanted o y = true then A else B := by
  rw [if_pos (by simp [Region.wanted, hgd])]
  exact h
theorem app_int {o : Oper} {a : Act} {K : Act → World → Prop} {Q : Exit → Act → World → Prop} {s x : Operand} {i : TypeInfo} {v : Value} {xs : List Int} {p B : Nat} {y : Int} {w : World} (ho : o.op = .call { callee := .builtin .append, args := #[s, x], argTypes := #[22, 22] })
    (hi : Try.prog.info? 3 = some i) (hz : i.zero = some (.int .i64 0)) (hsize : i.size = 1) (hby : i.bytes = 8) (hs : a.eval s = v) (hx : a.eval x = .slice (some ⟨p, 0, none⟩) 1 1) (hown : Own w B 3 1 e64 v xs)
    (hr : At w 1 e64 (some ⟨p, 0, none⟩) 1 1 [y]) (h63 : xs.length + 1 ≤ maxLen) (hbytes : (xs.length + 1) * 8 ≤ 140737488355328) (hbase : B ≤ w.heap.size)
    (h : ∀ v' w', Own w' B 3 1 e64 v' (xs ++ [y]) → w.grownBy w' v.ownBlock → (v'.ownBlock = v.ownBlock ∨ v'.ownBlock = some w.heap.size) → K (a.put o.dst v') w') : Oper.wp Try.prog o a w K Q :=
  wp_append_at w s x 22 ho B 3 i _ 8 Try.underlying22 hi hz hsize hby rfl Nat.one_pos len_e64 one_e64 v xs hs hown (some ⟨p, 0, none⟩) 1 1 [y] hx hr h63 hbytes hbase (fun v' w' h1 h2 _ h3 => h v' w' h1 h2 h3)
theorem AnyZ.takeD {P : Program} {ops : Array Oper} {Q : Exit → Act → World → Prop} {md : Region.Mode} {S : World → Prop} {z : Nat} {i d : Nat} {oi oz : Oper} {v : Value} {n : Nat} {L : Array Bool} {a : Act} {w : World} (hi : ops[i]? = some oi) (hd : oi.dst = some d) (hz : ops[z]? = some oz)
    (hzi : (oz.after.any fun e => Region.binds md e && e.on == i) = true) (hne : (z == i) = false) (hs : Region.noSelect ops = true) (hf : Region.free md ops L i = true) (hr : (Region.ready md ops L).contains i = true) (hLz : L.getD z true = false)
    (hQ : ∀ c a w, Q (.panic c) (a.put oi.dst v) w → Q (.panic c) a w) (hy : YieldsIf P ops S oi v a) (hS : S w)
    (h : AnyZ P md ops Q S z n (L.setIfInBounds i true) (a.put (some d) v) w) : AnyZ P md ops Q S z (n + 1) L a w :=
  AnyZ.take hi hz hzi hne hs hf hr hLz hQ hy hS (by rw [hd]; exact h)
theorem AnyZ.takePD {P : Program} {ops : Array Oper} {Q : Exit → Act → World → Prop} {md : Region.Mode} {S : World → Prop} {z : Nat} {i d : Nat} {oi : Oper} {v : Value} {n : Nat} {L : Array Bool} {a : Act} {w : World} (hi : ops[i]? = some oi) (hd : oi.dst = some d)
    (hne : (z == i) = false) (hs : Region.noSelect ops = true) (hf : Region.free md ops L i = true) (hr : (Region.ready md ops L).contains i = true)
    (hQ : ∀ c a w, Q (.panic c) (a.put oi.dst v) w → Q (.panic c) a w) (hy : YieldsIf P ops (fun _ => True) oi v a) (hS : S w)
    (h : AnyZ P md ops Q S z n (L.setIfInBounds i true) (a.put (some d) v) w) : AnyZ P md ops Q S z (n + 1) L a w :=
  AnyZ.takeP hi hne hs hf hr hQ hy hS (by rw [hd]; exact h)
theorem AnyZ.three6 {P : Program} {ops : Array Oper} {Q : Exit → Act → World → Prop} {md : Region.Mode} {S : World → Prop} {z n : Nat} {L : Array Bool} (Inv : Nat → Nat → Nat → Act → World → Prop)
    (hready : ∀ s1 s2 s3, s1 ≤ 2 → s2 ≤ 2 → s3 ≤ 2 → (s2 = 2 → s1 = 2) → (s3 = 2 → s2 = 2) → ¬ (s1 = 2 ∧ s2 = 2 ∧ s3 = 2) → Region.ready md ops (threeL L 4 5 10 11 16 17 s1 s2 s3) = threeR 4 5 10 11 16 17 s1 s2 s3)
    (hset : ∀ i s1 s2 s3, s1 ≤ 2 → s2 ≤ 2 → s3 ≤ 2 → i ∈ threeR 4 5 10 11 16 17 s1 s2 s3 → (threeL L 4 5 10 11 16 17 s1 s2 s3).setIfInBounds i true =
      (if i = 4 ∨ i = 5 then threeL L 4 5 10 11 16 17 (s1 + 1) s2 s3 else if i = 10 ∨ i = 11 then threeL L 4 5 10 11 16 17 s1 (s2 + 1) s3 else threeL L 4 5 10 11 16 17 s1 s2 (s3 + 1)))
    (o4 : ∀ s2 s3 a w, Inv 0 s2 s3 a w → wpOp P ops Q 4 (fun a' w' => S w' ∧ Inv 1 s2 s3 a' w') a w)
    (o5 : ∀ s2 s3 a w, Inv 1 s2 s3 a w → wpOp P ops Q 5 (fun a' w' => S w' ∧ Inv 2 s2 s3 a' w') a w)
    (o10 : ∀ s1 s3 a w, Inv s1 0 s3 a w → wpOp P ops Q 10 (fun a' w' => S w' ∧ Inv s1 1 s3 a' w') a w)
    (o11 : ∀ s3 a w, Inv 2 1 s3 a w → wpOp P ops Q 11 (fun a' w' => S w' ∧ Inv 2 2 s3 a' w') a w)
    (o16 : ∀ s1 s2 a w, Inv s1 s2 0 a w → wpOp P ops Q 16 (fun a' w' => S w' ∧ Inv s1 s2 1 a' w') a w)
    (o17 : ∀ a w, Inv 2 2 1 a w → wpOp P ops Q 17 (fun a' w' => S w' ∧ Inv 2 2 2 a' w') a w)
    (hend : ∀ a w, Inv 2 2 2 a w → AnyZ P md ops Q S z n (threeL L 4 5 10 11 16 17 2 2 2) a w) {a : Act} {w : World} (hi : Inv 0 0 0 a w) : AnyZ P md ops Q S z (n + 6) L a w := by
  refine AnyZ.three0 Inv hready hset ?_ three_in hend hi
  intro i s1 s2 s3 a w h1 h2 h3 h4 h5 hI hInv
  rcases three_in2 hI with ⟨rfl, rfl⟩ | ⟨rfl, rfl⟩ | ⟨rfl, rfl⟩ | ⟨rfl, rfl, rfl⟩ | ⟨rfl, rfl⟩ | ⟨rfl, rfl, rfl, rfl⟩
  · exact o4 _ _ _ _ hInv
  · exact o5 _ _ _ _ hInv
  · exact o10 _ _ _ _ hInv
  · exact o11 _ _ _ hInv
  · exact o16 _ _ _ _ hInv
  · exact o17 _ _ hInv
/-- What is made, is there: stays so. -/
theorem made_ext {W W' : World} {N : Nat} {B : Value} {x : Int} {s : Nat} (h : s = 1 → ∃ p, B = .slice (some ⟨p, 0, none⟩) 1 1 ∧ At W 1 e64 (some ⟨p, 0, none⟩) 1 1 [x] ∧ N ≤ p) (he : Ext W W') :
    s = 1 → ∃ p, B = .slice (some ⟨p, 0, none⟩) 1 1 ∧ At W' 1 e64 (some ⟨p, 0, none⟩) 1 1 [x] ∧ N ≤ p := fun e => by
  obtain ⟨p, h1, h2, h3⟩ := h e
  exact ⟨p, h1, h2.ext he, h3⟩
theorem made_gr {W W' : World} {N : Nat} {B : Value} {x : Int} {s : Nat} {row : Option Nat} (h : s = 1 → ∃ p, B = .slice (some ⟨p, 0, none⟩) 1 1 ∧ At W 1 e64 (some ⟨p, 0, none⟩) 1 1 [x] ∧ N ≤ p) (g : W.grownBy W' row) (hr : ∀ b, row = some b → b < N) :
    s = 1 → ∃ p, B = .slice (some ⟨p, 0, none⟩) 1 1 ∧ At W' 1 e64 (some ⟨p, 0, none⟩) 1 1 [x] ∧ N ≤ p := fun e => by
  obtain ⟨p, h1, h2, h3⟩ := h e
  exact ⟨p, h1, h2.gr g (fun e2 => by have := hr p e2.symm; omega), h3⟩
section
variable {lA : Option Addr} {ln lc : Nat} {sA : Option Addr} {sn sc : Nat} {qA : Option Addr} {qn qc : Nat} {d0 s0 r0 f0 i0 k0 l0 t0 lo0 hi0 a0 x0 y0 z0 gw gb : Int} {v1 v2 v3 st ld : Value} {x1 : WaT} {F : FoT} {rn a t : Int} {w W : World} {N s1 s2 s3 : Nat} {B1 A1 B2 A2 B3 A3 : Value}
theorem ThrI.make1 (h : ThrI w W N lA ln lc sA sn sc qA qn qc d0 s0 r0 f0 i0 k0 l0 t0 lo0 hi0 a0 x0 y0 z0 gw gb v1 v2 v3 st ld x1 F rn a t 0 s2 s3 B1 A1 B2 A2 B3 A3) : ThrI w (W.alloc (.cells #[.int .i64 rn] 3)) N lA ln lc sA sn sc qA qn qc d0 s0 r0 f0 i0 k0 l0 t0 lo0 hi0 a0 x0 y0 z0 gw gb v1 v2 v3 st ld x1 F rn a t 1 s2 s3 (.slice (some ⟨W.heap.size, 0, none⟩) 1 1) A1 B2 A2 B3 A3 := by
  obtain ⟨hR, hN, p1, p2, p3, q1, q2, q3⟩ := h
  exact ⟨hR.ext' (Ext.alloc _ _), by rw [World.size_alloc]; omega, fun _ => ⟨_, rfl, At.new1 (enc := e64) W rn (.int .i64 rn) rfl 3, hN⟩, made_ext p2 (Ext.alloc _ _), made_ext p3 (Ext.alloc _ _), fun e => absurd e (by decide), q2, q3⟩
theorem ThrI.make2 (h : ThrI w W N lA ln lc sA sn sc qA qn qc d0 s0 r0 f0 i0 k0 l0 t0 lo0 hi0 a0 x0 y0 z0 gw gb v1 v2 v3 st ld x1 F rn a t s1 0 s3 B1 A1 B2 A2 B3 A3) : ThrI w (W.alloc (.cells #[.int .i64 a] 3)) N lA ln lc sA sn sc qA qn qc d0 s0 r0 f0 i0 k0 l0 t0 lo0 hi0 a0 x0 y0 z0 gw gb v1 v2 v3 st ld x1 F rn a t s1 1 s3 B1 A1 (.slice (some ⟨W.heap.size, 0, none⟩) 1 1) A2 B3 A3 := by
  obtain ⟨hR, hN, p1, p2, p3, q1, q2, q3⟩ := h
  exact ⟨hR.ext' (Ext.alloc _ _), by rw [World.size_alloc]; omega, made_ext p1 (Ext.alloc _ _), fun _ => ⟨_, rfl, At.new1 (enc := e64) W a (.int .i64 a) rfl 3, hN⟩, made_ext p3 (Ext.alloc _ _), q1, fun e => absurd e (by decide), q3⟩
theorem ThrI.make3 (h : ThrI w W N lA ln lc sA sn sc qA qn qc d0 s0 r0 f0 i0 k0 l0 t0 lo0 hi0 a0 x0 y0 z0 gw gb v1 v2 v3 st ld x1 F rn a t s1 s2 0 B1 A1 B2 A2 B3 A3) : ThrI w (W.alloc (.cells #[.int .i64 t] 3)) N lA ln lc sA sn sc qA qn qc d0 s0 r0 f0 i0 k0 l0 t0 lo0 hi0 a0 x0 y0 z0 gw gb v1 v2 v3 st ld x1 F rn a t s1 s2 1 B1 A1 B2 A2 (.slice (some ⟨W.heap.size, 0, none⟩) 1 1) A3 := by
  obtain ⟨hR, hN, p1, p2, p3, q1, q2, q3⟩ := h
  exact ⟨hR.ext' (Ext.alloc _ _), by rw [World.size_alloc]; omega, made_ext p1 (Ext.alloc _ _), made_ext p2 (Ext.alloc _ _), fun _ => ⟨_, rfl, At.new1 (enc := e64) W t (.int .i64 t) rfl 3, hN⟩, q1, q2, fun e => absurd e (by decide)⟩
theorem ThrI.take1 (h : ThrI w W N lA ln lc sA sn sc qA qn qc d0 s0 r0 f0 i0 k0 l0 t0 lo0 hi0 a0 x0 y0 z0 gw gb v1 v2 v3 st ld x1 F rn a t 1 s2 s3 B1 A1 B2 A2 B3 A3) {u : Value} {W' : World} (o7 : Own W' (w.heap.size + 1 + 1 + 1 + 1 + 1) 3 1 e64 u (F.ch ++ [rn])) (g : W.grownBy W' v1.ownBlock) (hob : u.ownBlock = v1.ownBlock ∨ u.ownBlock = some W.heap.size) (hN1 : ∀ b, v1.ownBlock = some b → b < N) : ThrI w W' N lA ln lc sA sn sc qA qn qc d0 s0 r0 f0 i0 k0 l0 t0 lo0 hi0 a0 x0 y0 z0 gw gb v1 v2 v3 st ld x1 F rn a t 2 s2 s3 B1 u B2 A2 B3 A3 := by
  obtain ⟨hR, hN, p1, p2, p3, q1, q2, q3⟩ := h
  obtain ⟨A, c, hu, _⟩ := o7.at_ len_e64
  rw [List.length_append] at hu
  exact ⟨hR.app0 o7 g hob, Nat.le_trans hN g.size, fun e => absurd e (by decide), made_gr p2 g hN1, made_gr p3 g hN1, fun _ => ⟨A, c, hu⟩, q2, q3⟩
theorem ThrI.own1 (h : ThrI w W N lA ln lc sA sn sc qA qn qc d0 s0 r0 f0 i0 k0 l0 t0 lo0 hi0 a0 x0 y0 z0 gw gb v1 v2 v3 st ld x1 F rn a t 1 s2 s3 B1 A1 B2 A2 B3 A3) : ∃ p, B1 = .slice (some ⟨p, 0, none⟩) 1 1 ∧ At W 1 e64 (some ⟨p, 0, none⟩) 1 1 [rn] ∧ Own W (w.heap.size + 1 + 1 + 1 + 1 + 1) 3 1 e64 v1 F.ch ∧ (w.heap.size + 1 + 1 + 1 + 1 + 1) ≤ W.heap.size := by
  obtain ⟨hR, hN, p1, p2, p3, q1, q2, q3⟩ := h
  obtain ⟨p, h1, h2, _⟩ := p1 rfl
  exact ⟨p, h1, h2, hR.o1, Nat.succ_le_of_lt hR.crs.lt⟩
theorem ThrI.take2 (h : ThrI w W N lA ln lc sA sn sc qA qn qc d0 s0 r0 f0 i0 k0 l0 t0 lo0 hi0 a0 x0 y0 z0 gw gb v1 v2 v3 st ld x1 F rn a t 2 1 s3 B1 A1 B2 A2 B3 A3) {u : Value} {W' : World} (o7 : Own W' (w.heap.size + 1 + 1 + 1 + 1 + 1) 3 1 e64 u (F.asd ++ [a])) (g : W.grownBy W' v2.ownBlock) (hob : u.ownBlock = v2.ownBlock ∨ u.ownBlock = some W.heap.size) (hN1 : ∀ b, v2.ownBlock = some b → b < N) : ThrI w W' N lA ln lc sA sn sc qA qn qc d0 s0 r0 f0 i0 k0 l0 t0 lo0 hi0 a0 x0 y0 z0 gw gb v1 v2 v3 st ld x1 F rn a t 2 2 s3 B1 A1 B2 u B3 A3 := by
  obtain ⟨hR, hN, p1, p2, p3, q1, q2, q3⟩ := h
  obtain ⟨A, c, hu, _⟩ := o7.at_ len_e64
  rw [List.length_append] at hu
  exact ⟨hR.app1 o7 g hob, Nat.le_trans hN g.size, made_gr p1 g hN1, fun e => absurd e (by decide), made_gr p3 g hN1, q1, fun _ => ⟨A, c, hu⟩, q3⟩
theorem ThrI.own2 (h : ThrI w W N lA ln lc sA sn sc qA qn qc d0 s0 r0 f0 i0 k0 l0 t0 lo0 hi0 a0 x0 y0 z0 gw gb v1 v2 v3 st ld x1 F rn a t 2 1 s3 B1 A1 B2 A2 B3 A3) : ∃ p, B2 = .slice (some ⟨p, 0, none⟩) 1 1 ∧ At W 1 e64 (some ⟨p, 0, none⟩) 1 1 [a] ∧ Own W (w.heap.size + 1 + 1 + 1 + 1 + 1) 3 1 e64 v2 F.asd ∧ (w.heap.size + 1 + 1 + 1 + 1 + 1) ≤ W.heap.size := by
  obtain ⟨hR, hN, p1, p2, p3, q1, q2, q3⟩ := h
  obtain ⟨p, h1, h2, _⟩ := p2 rfl
  exact ⟨p, h1, h2, hR.o2, Nat.succ_le_of_lt hR.crs.lt⟩
theorem ThrI.take3 (h : ThrI w W N lA ln lc sA sn sc qA qn qc d0 s0 r0 f0 i0 k0 l0 t0 lo0 hi0 a0 x0 y0 z0 gw gb v1 v2 v3 st ld x1 F rn a t 2 2 1 B1 A1 B2 A2 B3 A3) {u : Value} {W' : World} (o7 : Own W' (w.heap.size + 1 + 1 + 1 + 1 + 1) 3 1 e64 u (F.arr ++ [t])) (g : W.grownBy W' v3.ownBlock) (hob : u.ownBlock = v3.ownBlock ∨ u.ownBlock = some W.heap.size) (hN1 : ∀ b, v3.ownBlock = some b → b < N) : ThrI w W' N lA ln lc sA sn sc qA qn qc d0 s0 r0 f0 i0 k0 l0 t0 lo0 hi0 a0 x0 y0 z0 gw gb v1 v2 v3 st ld x1 F rn a t 2 2 2 B1 A1 B2 A2 B3 u := by
  obtain ⟨hR, hN, p1, p2, p3, q1, q2, q3⟩ := h
  obtain ⟨A, c, hu, _⟩ := o7.at_ len_e64
  rw [List.length_append] at hu
  exact ⟨hR.app2 o7 g hob, Nat.le_trans hN g.size, made_gr p1 g hN1, made_gr p2 g hN1, fun e => absurd e (by decide), q1, q2, fun _ => ⟨A, c, hu⟩⟩
theorem ThrI.own3 (h : ThrI w W N lA ln lc sA sn sc qA qn qc d0 s0 r0 f0 i0 k0 l0 t0 lo0 hi0 a0 x0 y0 z0 gw gb v1 v2 v3 st ld x1 F rn a t 2 2 1 B1 A1 B2 A2 B3 A3) : ∃ p, B3 = .slice (some ⟨p, 0, none⟩) 1 1 ∧ At W 1 e64 (some ⟨p, 0, none⟩) 1 1 [t] ∧ Own W (w.heap.size + 1 + 1 + 1 + 1 + 1) 3 1 e64 v3 F.arr ∧ (w.heap.size + 1 + 1 + 1 + 1 + 1) ≤ W.heap.size := by
  obtain ⟨hR, hN, p1, p2, p3, q1, q2, q3⟩ := h
  obtain ⟨p, h1, h2, _⟩ := p3 rfl
  exact ⟨p, h1, h2, hR.o3, Nat.succ_le_of_lt hR.crs.lt⟩
theorem ThrI.cells (h : ThrI w W N lA ln lc sA sn sc qA qn qc d0 s0 r0 f0 i0 k0 l0 t0 lo0 hi0 a0 x0 y0 z0 gw gb v1 v2 v3 st ld x1 F rn a t s1 s2 s3 B1 A1 B2 A2 B3 A3) : W.cell? ⟨w.heap.size + 1 + 1 + 1 + 1, 0, none⟩ = some v1 ∧ W.cell? ⟨w.heap.size + 1 + 1 + 1 + 1, 1, none⟩ = some v2 ∧ W.cell? ⟨w.heap.size + 1 + 1 + 1 + 1, 2, none⟩ = some v3 := ⟨h.1.crs.cell 0, h.1.crs.cell 1, h.1.crs.cell 2⟩
theorem ThrI.all (h : ThrI w W N lA ln lc sA sn sc qA qn qc d0 s0 r0 f0 i0 k0 l0 t0 lo0 hi0 a0 x0 y0 z0 gw gb v1 v2 v3 st ld x1 F rn a t 2 2 2 B1 A1 B2 A2 B3 A3) : ∃ A0 c0 A1' c1 A2' c2, A1 = .slice A0 (F.ch.length + 1) c0 ∧ A2 = .slice A1' (F.asd.length + 1) c1 ∧ A3 = .slice A2' (F.arr.length + 1) c2 ∧ RndR w W lA ln lc sA sn sc qA qn qc d0 s0 r0 f0 i0 k0 l0 t0 lo0 hi0 a0 x0 y0 z0 gw gb v1 v2 v3 A1 A2 A3 st ld { w := x1, loads := F.loads, ch := F.ch ++ [rn], asd := F.asd ++ [a], arr := F.arr ++ [t], before := F.before } := by
  obtain ⟨hR, hN, p1, p2, p3, q1, q2, q3⟩ := h
  obtain ⟨a0, c0, h0⟩ := q1 rfl
  obtain ⟨a1, c1, h1⟩ := q2 rfl
  obtain ⟨a2, c2, h2⟩ := q3 rfl
  exact ⟨a0, c0, a1, c1, a2, c2, h0, h1, h2, hR⟩
end
end Go.Proofs.Ytjbgkoeojfmkkaa
