/- Several texts in one: Walks: tableBytes, TableBytes (reference). Conditions as stated; Walks: addRun of the program, grown of the reference. Conditions as stated. -/
import Derived.Test.YtlonhkjplijlcaaMfd14
import Derived.Test.YtlonhkjplijlcaaMfd18
import Derived.Test.YtlonhkjplijlcaaMfd20
import Derived.Test.YtlonhkjplijlcaaMfd08
import Derived.Test.YtlonhkjplijlcaaMfd09
namespace Go.Proofs.Ytlonhkjplijlcaa
open Go.RowKit
def addR (l : List (Int × Int)) (x : Int) : List (Int × Int) :=
  if 0 < l.length ∧ (l.getD (l.length - 1) (0, 0)).2 = x then l.set (l.length - 1) ((l.getD (l.length - 1) (0, 0)).1 + 1, x) else l ++ [(1, x)]
theorem addR_len (l : List (Int × Int)) (x : Int) : (addR l x).length ≤ l.length + 1 := by
  unfold addR; split <;> simp
theorem Grw.set1 (w : World) (g i n c : Nat) (u : Value) : Grw w (w.setCell ⟨g, i, none⟩ u) (.slice (some ⟨g, 0, none⟩) n c) (.slice (some ⟨g, 0, none⟩) n c) := by
  have h := Tw.set_ w g i u none
  exact ⟨⟨h.os, h.tape, h.output, h.size, fun k hk hr => h.block k hk (fun e => hr (by rw [e]; rfl)) (by simp)⟩, .inl rfl⟩
def GrRuns (w : World) (base : Nat) (v : Value) (l : List (Int × Int)) (e : Ending) (w' : World) : Prop := ∃ v', e = .returned v' ∧ Own w' base 119 2 e2 v' l ∧ Grw w w' v v'
set_option linter.unusedVariables false in
set_option maxRecDepth 100000 in
set_option maxHeartbeats 4000000 in
theorem addRun_any {w : World} {base : Nat} {v : Value} {l : List (Int × Int)} {x : Int} (ho : Own w base 119 2 e2 v l) (hbw : base ≤ w.heap.size) (hl : l.length ≤ 1000000000) (hc : -1 ≤ (l.getD (l.length - 1) (0, 0)).1 ∧ (l.getD (l.length - 1) (0, 0)).1 ≤ 1000000000000) :
    Calls Try.prog 71 #[v, .int .i64 x] w (GrRuns w base v (addR l x)) := by
  obtain ⟨A, c, rfl, hat⟩ := ho.at_ len_e2
  obtain ⟨n, hn⟩ : ∃ n, n = l.length := ⟨_, rfl⟩
  have HN := hide hn
  rw [← hn] at ho hat hc hl ⊢
  have HO := hide ho
  have HAP : Hid (¬(0 < n ∧ (l.getD (n - 1) (0, 0)).2 = x) → addR l x = l ++ [(1, x)]) := hide (fun h => by unfold addR; rw [← HN.out, if_neg h])
  have HIN : Hid ((0 < n ∧ (l.getD (n - 1) (0, 0)).2 = x) → addR l x = l.set (n - 1) ((l.getD (n - 1) (0, 0)).1 + 1, (l.getD (n - 1) (0, 0)).2)) := hide (fun h => by unfold addR; rw [← HN.out, if_pos h, h.2])
  have HL1 : Hid (l.length + 1 ≤ maxLen) := hide (by rw [← HN.out]; unfold maxLen; omega)
  have HL2 : Hid ((l.length + 1) * 16 ≤ 140737488355328) := hide (by rw [← HN.out]; omega)
  have HB2 : Hid (base ≤ (w.alloc (.cells #[.int .i64 1, .int .i64 x] 119)).heap.size) := hide (by rw [World.size_alloc]; omega)
  obtain ⟨i0_, hi0, hz0, hz1, hz2⟩ := info_parts Try.info119
  clear ho hn
  by_cases h0 : 0 < n
  · obtain ⟨g, rfl, hg1, hg2⟩ := HO.out.where2 h0
    obtain ⟨m, hm⟩ : ∃ m, m = n - 1 := ⟨_, rfl⟩
    rw [← hm] at HAP HIN hc
    have hmn : m < n := by omega
    obtain ⟨b1, b2⟩ := hat.pair hmn
    have hfz := HO.out.frozen2
    simp only [Nat.zero_add] at b1 b2
    have i1 : IntKind.i64.wrap ((n : Int) - 1) = (m : Int) := by rw [IntKind.wrap_i64]; have := HL1.out; rw [← HN.out] at this; unfold maxLen at this; omega
    have dn : decide ((0 : Int) < (n : Int)) = true := by rw [decide_eq_true_iff]; omega
    have HSET := hide (HO.out.setA m ((l.getD m (0, 0)).1 + 1))
    have HGS := hide (Grw.set1 w g (m * 2) n c (.int .i64 ((l.getD m (0, 0)).1 + 1)))
    generalize (l.getD m (0, 0)).1 = y at *
    generalize (l.getD m (0, 0)).2 = z at *
    have i2 : IntKind.i64.wrap (y + 1) = y + 1 := by rw [IntKind.wrap_i64]; omega
    clear hm hat hg1 hg2
    by_cases hx : z = x
    · subst hx
      have HV := hide (HIN.out ⟨h0, rfl⟩)
      have dz : (z == z) = true := by simp
      clear HIN HAP hc
      rw [HV.out]
      go_enter Try.func71, Try.ntmps71
      go_wp2_with fail
      go_ret
      exact ⟨_, rfl, HSET.out, HGS.out⟩
    · have HV := hide (HAP.out (fun h => hx h.2))
      have dz : (z == x) = false := by rw [beq_eq_false_iff_ne]; exact hx
      clear HIN HAP hc HSET HGS
      rw [HV.out]
      go_enter Try.func71, Try.ntmps71
      go_wp2_with (at_builtin; refine wpList_append_at _ rfl (.tmp 30) (.tmp 33) 69 rfl base 119 i0_ _ 16 Try.underlying69 hi0 hz0 hz1 hz2 rfl (by omega) len_e2 one_e2 _ _ (by rfl) (HO.out.ext (Ext.alloc _ _)) (some ⟨w.heap.size, 0, none⟩) 1 1 [(1, x)] (by rfl) (At.pair1 w 1 x _) HL1.out HL2.out HB2.out ?_; intro v7 w7 o7 g7 _ r7; have O7 := hide o7; have G7 := hide g7; have R7 := hide r7; clear o7 g7 r7)
      go_wp2_with fail
      go_ret
      exact ⟨_, rfl, O7.out, Grw.ahead (Ext.alloc _ _) (Grw.of G7.out R7.out)⟩
  · obtain rfl : n = 0 := by omega
    have HV := hide (HAP.out (fun h => h0 h.1))
    clear HIN HAP hc hat
    rw [HV.out]
    go_enter Try.func71, Try.ntmps71
    go_wp2_with (at_builtin; refine wpList_append_at _ rfl (.tmp 30) (.tmp 33) 69 rfl base 119 i0_ _ 16 Try.underlying69 hi0 hz0 hz1 hz2 rfl (by omega) len_e2 one_e2 _ _ (by rfl) (HO.out.ext (Ext.alloc _ _)) (some ⟨w.heap.size, 0, none⟩) 1 1 [(1, x)] (by rfl) (At.pair1 w 1 x _) HL1.out HL2.out HB2.out ?_; intro v7 w7 o7 g7 _ r7; have O7 := hide o7; have G7 := hide g7; have R7 := hide r7; clear o7 g7 r7)
    go_wp2_with fail
    go_ret
    exact ⟨_, rfl, O7.out, Grw.ahead (Ext.alloc _ _) (Grw.of G7.out R7.out)⟩
end Go.Proofs.Ytlonhkjplijlcaa
