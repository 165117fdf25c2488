/- Several texts in one: Walks: Needed (both). Conditions: none; Walks of keyId, KeyId and KeyOf. Conditions as stated. -/
import Derived.Test.YtkbmgakehlmcnaaMtq03
import Derived.Test.YtkbmgakehlmcnaaMtq09
import Derived.Test.YtkbmgakehlmcnaaMtq11
namespace Go.Proofs.Ytkbmgakehlmcnaa
open Go.RowKit
end Go.Proofs.Ytkbmgakehlmcnaa
namespace Go.Proofs.Ytkbmgakehlmcnaa
open Go.RowKit Kc
theorem step_append_atK {P : Program} {w : World} {α : Type} {enc : α → List Value} {size : Nat} {ops : Array Oper} {o : Oper} {a : Act} {K : Act → World → Prop} {Q : Exit → Act → World → Prop} {E : Prop} (hgd : o.guard = none) (s x : Operand) (t : TypeId)
    (ho : o.op = .call { callee := .builtin .append, args := #[s, x], argTypes := #[t, t] })
    (base : Nat) (e : TypeId) (i : TypeInfo) (z : Value) (bytes : Nat) (ht : P.underlying t = some (.slice e)) (hi : P.info? e = some i) (hz : i.zero = some z)
    (hsize : i.size = size) (hby : i.bytes = bytes) (hzs : z.cells.size = size) (hsz : 0 < size) (henc : ∀ x, (enc x).length = size) (h1 : ∀ x, ∀ u ∈ enc x, u.oneCell' = true)
    (v : Value) (xs : List α) (hs : a.eval s = v) (hown : Own w base e size enc v xs) (A : Option Addr) (m c : Nat) (ys : List α) (hx : a.eval x = .slice A m c) (hr : At w size enc A m c ys)
    (h63 : xs.length + m ≤ maxLen) (hbytes : (xs.length + m) * bytes ≤ 140737488355328) (hbase : base ≤ w.heap.size)
    (h : ∀ v' w', Own w' base e size enc v' (xs ++ ys) → w.grownBy w' v.ownBlock → (v' = .slice none 0 0 ↔ v = .slice none 0 0 ∧ m = 0) → (v'.ownBlock = v.ownBlock ∨ v'.ownBlock = some w.heap.size) → K (a.put o.dst v') w') :
    if Region.wanted o (yielded ops a.tmps) = true then Oper.wp P o a w K Q else E := by
  have hw : Region.wanted o (yielded ops a.tmps) = true := by simp [Region.wanted, hgd]
  rw [if_pos hw]
  exact wp_append_at w s x t ho base e i z bytes ht hi hz hsize hby hzs hsz henc h1 v xs hs hown A m c ys hx hr h63 hbytes hbase h
def idL (seed : List UInt8) (p : Nat) : List UInt8 := digest (seed ++ beL 8 p)
set_option maxRecDepth 100000 in
set_option maxHeartbeats 4000000 in
theorem keyId_any (B E L : Int) {A : Option Addr} {n c : Nat} {l : List UInt8} {w : World} (h : At w 1 e8 A n c l) (hn : n ≤ 100) (p : Nat) (hp : p ≤ 1000000000) :
    Calls Try.prog 16 #[rotV B E L A n c, .int .i64 p] w fun e w' => ∃ g, e = .returned (.slice (some ⟨g, 0, none⟩) 16 16) ∧ At w' 1 e8 (some ⟨g, 0, none⟩) 16 16 (idL l p) ∧ Ext w w' := by
  obtain ⟨i0, hi0, hz0, hz1, hz2⟩ := info_parts Try.infoK5
  have hl := hide h.len
  have H := hide h
  clear h
  have hn1 := u64hi p (by omega)
  have hwb : ∀ W : World, Calls Try.prog 31 #[.int .u32 ((hiW p).toNat : Int), .int .u32 (p : Int)] W fun e w' => e = .returned (agg8 (beL 8 p)) ∧ Ext W w' := fun W => by
    have h1 := wordBytes_any (hiW p) (loW p) W
    have h2 : ((loW p).toNat : Int) = (p : Int) := by rw [← u64lo p]; omega
    rw [h2, beL8] at h1
    exact h1
  have HW := hide hwb
  obtain ⟨z, hz⟩ : ∃ z, z = beL 8 p := ⟨_, rfl⟩
  rw [← hz] at HW
  clear hwb
  have HB8 := hide hz
  clear hz
  go_enter Try.func16, Try.ntmps16
  go_wp2_with fail
  refine (HW.out _).mono ?_
  rintro e w1 ⟨rfl, e1⟩
  have hz8 : z.length = 8 := by rw [HB8.out, length_beL]
  have HZ8 := hide hz8
  have c3 := e1.cell ((Blk.new w 30 #[.int .i64 B, .int .i64 E, .int .i64 L, .slice A n c]).cell 3)
  have E1 := hide (Ext.trans (Ext.alloc w (.cells #[.int .i64 B, .int .i64 E, .int .i64 L, .slice A n c] 30)) e1)
  have z1 := e1.size
  clear e1 hz8 hn1
  go_wp2_with fail
  refine gen_wp fun W2 h2 => ?_
  have A2 : Hid (At W2 1 e8 (some ⟨w1.heap.size, 0, none⟩) 8 8 z) := hide (by rw [h2]; exact At.new8 w1 z HZ8.out 90)
  have E2 : Hid (Ext w W2) := hide (by have h := E1.out; rw [h2]; exact ext_alloc h _)
  have c4 : W2.cell? ⟨w.heap.size, 3, none⟩ = some (.slice A n c) := by rw [h2]; exact (Ext.alloc _ _).cell c3
  clear h2 c3 E1
  have s1 : ([] : List UInt8).length + n ≤ maxLen := by simp; unfold maxLen; omega
  have s2 : (([] : List UInt8).length + n) * 1 ≤ 140737488355328 := by simp; omega
  have t1 : ([] ++ l).length + 8 ≤ maxLen := by rw [List.nil_append, hl.out]; unfold maxLen; omega
  have t2 : (([] ++ l).length + 8) * 1 ≤ 140737488355328 := by rw [List.nil_append, hl.out]; omega
  have u1 : ([] ++ l ++ z).length = n + 8 := by simp [hl.out, HZ8.out]
  have S1 := hide s1; have S2 := hide s2; have T1 := hide t1; have T2 := hide t2; have U1 := hide u1
  clear s1 s2 t1 t2 u1
  go_region_held3 (fun w' => w'.cell? ⟨w.heap.size, 3, none⟩ = some (.slice A n c)) (first | go_keep | assumption) (first
    | ((refine step_append_atK rfl (.const (.slice none 0 0)) (.tmp 13) 28 rfl W2.heap.size 5 i0 _ 1 Try.underlying28 hi0 hz0 hz1 hz2 rfl (by omega) len_e8 one_e8 (.slice none 0 0) [] rfl (Own.nil _ _ _ _ _) A n c l (by simp [Act.eval]) (H.out.ext (Ext.trans E2.out (by repeat' (first | (with_reducible first | exact Below.refl _ _ | assumption | refine below_drewN ?_ _ | refine Below.drew ?_ | refine ext_alloc ?_ _ | refine Below.setCell ?_ ?_ _) | go_size)))) S1.out S2.out (Nat.le_refl _) ?_); intro v3 w3 o3 g3 _ _; have O3 := hide o3; have E3 : Hid (Ext W2 w3) := hide ((Own.nil _ W2.heap.size 5 1 e8).below (show Ext W2 _ from (by repeat' (first | (with_reducible first | exact Below.refl _ _ | assumption | refine below_drewN ?_ _ | refine Below.drew ?_ | refine ext_alloc ?_ _ | refine Below.setCell ?_ ?_ _) | go_size))) g3 (Nat.le_refl _)); have K3 := E3.out.cell c4; clear o3 g3)
    | ((refine step_append_atK rfl (.tmp 14) (.tmp 15) 28 rfl W2.heap.size 5 i0 _ 1 Try.underlying28 hi0 hz0 hz1 hz2 rfl (by omega) len_e8 one_e8 v3 ([] ++ l) (by simp [Act.eval]) (O3.out.ext (by repeat' (first | (with_reducible first | exact Below.refl _ _ | assumption | refine below_drewN ?_ _ | refine Below.drew ?_ | refine ext_alloc ?_ _ | refine Below.setCell ?_ ?_ _) | go_size))) (some ⟨w1.heap.size, 0, none⟩) 8 8 z (by simp [Act.eval]) (A2.out.ext (Ext.trans E3.out (by repeat' (first | (with_reducible first | exact Below.refl _ _ | assumption | refine below_drewN ?_ _ | refine Below.drew ?_ | refine ext_alloc ?_ _ | refine Below.setCell ?_ ?_ _) | go_size)))) T1.out T2.out E3.out.size ?_); intro v4 w4 o4 g4 _ _; have O4 := hide o4; have E4 : Hid (Ext W2 w4) := hide (Own.below O3.out E3.out g4 (Nat.le_refl _)); have K4 := E4.out.cell c4; clear o4 g4; obtain ⟨A4, d4, hv4, a4⟩ := O4.out.at_ len_e8; rw [U1.out] at hv4 a4; subst hv4; have P4 := hide a4; clear a4)
    | ((go_at_call 15; with_reducible refine (digest_any P4.out (by omega)).mono ?_); rintro e w5 ⟨g5, rfl, o5, e5⟩; have O5 := hide (o5.atS len_e8); have E5 := hide (Ext.trans E4.out e5); have K5 := E5.out.cell c4; clear o5 e5))
  go_wp2
  go_ret
  refine ⟨g5, rfl, ?_, Ext.trans E2.out E5.out⟩
  have q := O5.out
  rw [List.nil_append, HB8.out] at q
  exact q
end Go.Proofs.Ytkbmgakehlmcnaa
