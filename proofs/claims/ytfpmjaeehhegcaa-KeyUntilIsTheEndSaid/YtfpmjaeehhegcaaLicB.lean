/- Walks: cmp.Compare of strings, slices.Compare of two strings each. No condition. -/
import Derived.Test.YtfpmjaeehhegcaaLicA
namespace Go.Proofs.Ytfpmjaeehhegcaa
open Go.RowKit

def cmpV (a b : ByteArray) : Int := if Op.bytesLess a.toList b.toList = true then -1 else if (a.toList == b.toList) = true then 0 else 1
def cmp2V (u i v j : ByteArray) : Int := if cmpV u v ≠ 0 then cmpV u v else cmpV i j
/-- The first pair is not behind the second one. -/
def pairLe (u i v j : ByteArray) : Bool := Op.bytesLess u.toList v.toList || (u.toList == v.toList && sLe i j)
theorem cmp2_le (u i v j : ByteArray) : decide (cmp2V u i v j ≤ 0) = pairLe u i v j := by
  unfold cmp2V pairLe cmpV sLe
  cases Op.bytesLess u.toList v.toList <;> cases (u.toList == v.toList) <;> cases Op.bytesLess i.toList j.toList <;> cases (i.toList == j.toList) <;> simp
theorem isNaN_any (a : ByteArray) (w : World) : Calls Try.prog 61 #[.string a] w fun e w' => e = .returned (.bool false) ∧ w = w' := by
  have h : (a.toList == a.toList) = true := by simp
  go_enter Try.func61, Try.ntmps61
  go_wp2
  go_ret
  exact ⟨ret_bool (by simp), rfl⟩
theorem cmpStr_any (a b : ByteArray) (w : World) : Calls Try.prog 55 #[.string a, .string b] w fun e w' => e = .returned (.int .i64 (cmpV a b)) ∧ w = w' := by
  cases h1 : Op.bytesLess a.toList b.toList with
  | true =>
    have hv : cmpV a b = -1 := by unfold cmpV; rw [if_pos h1]
    rw [hv]
    clear hv
    go_enter Try.func55, Try.ntmps55
    go_wp2_with ((go_at_call 61; with_reducible refine (isNaN_any _ _).mono ?_); rintro e w' ⟨rfl, rfl⟩)
    go_ret
    exact ⟨rfl, rfl⟩
  | false =>
    cases h2 : (a.toList == b.toList) with
    | true =>
      have hv : cmpV a b = 0 := by unfold cmpV; rw [if_neg (by simp [h1]), if_pos h2]
      rw [hv]
      clear hv
      go_enter Try.func55, Try.ntmps55
      go_wp2_with ((go_at_call 61; with_reducible refine (isNaN_any _ _).mono ?_); rintro e w' ⟨rfl, rfl⟩)
      go_ret
      exact ⟨rfl, rfl⟩
    | false =>
      have hv : cmpV a b = 1 := by unfold cmpV; rw [if_neg (by simp [h1]), if_neg (by simp [h2])]
      rw [hv]
      clear hv
      go_enter Try.func55, Try.ntmps55
      go_wp2_with ((go_at_call 61; with_reducible refine (isNaN_any _ _).mono ?_); rintro e w' ⟨rfl, rfl⟩)
      go_ret
      exact ⟨rfl, rfl⟩
set_option maxRecDepth 100000 in
set_option maxHeartbeats 1000000 in
theorem cmp2_any {u i v j : ByteArray} {g1 g2 : Nat} {w : World} (h1 : Blk w g1 9 #[.string u, .string i]) (h2 : Blk w g2 9 #[.string v, .string j]) :
    Calls Try.prog 39 #[.slice (some ⟨g1, 0, none⟩) 2 2, .slice (some ⟨g2, 0, none⟩) 2 2] w fun e w' => e = .returned (.int .i64 (cmp2V u i v j)) ∧ w = w' := by
  have a0 := h1.cell 0
  have a1 := h1.cell 1
  have b0 := h2.cell 0
  have b1 := h2.cell 1
  have HC := hide (fun (W : World) => cmpStr_any u v W)
  have HD := hide (fun (W : World) => cmpStr_any i j W)
  clear h1 h2
  by_cases hc : cmpV u v = 0
  · have hv : cmp2V u i v j = cmpV i j := by unfold cmp2V; rw [if_neg (by simp [hc])]
    rw [hv]
    rw [hc] at HC
    clear hv hc
    by_cases hd : cmpV i j = 0
    · rw [hd]
      rw [hd] at HD
      clear hd
      go_enter Try.func39, Try.ntmps39
      go_wp2_with fail
      go_loop [11] (fun ri => ∃ k : Nat, k ≤ 2 ∧ ri = .int .i64 k) (fun ri => 2 - (intOf ri).toNat)
      case atStart => exact ⟨0, by omega, rfl⟩
      case round =>
        obtain ⟨k, hk, rfl⟩ := hrel
        obtain rfl | rfl | rfl : k = 0 ∨ k = 1 ∨ k = 2 := by omega
        · go_wp2_with ((go_at_call 55; with_reducible refine (HC.out _).mono ?_); rintro e w' ⟨rfl, rfl⟩)
          go_round
          case rel => exact ⟨1, by omega, rfl⟩
          case measure => simp [intOf]
        · go_wp2_with ((go_at_call 55; with_reducible refine (HD.out _).mono ?_); rintro e w' ⟨rfl, rfl⟩)
          go_round
          case rel => exact ⟨2, by omega, rfl⟩
          case measure => simp [intOf]
        · go_wp2_with fail
          go_ret
          exact ⟨rfl, rfl⟩
    · have hb : (cmpV i j != 0) = true := by rw [bne_iff_ne]; exact hd
      generalize cmpV i j = r at *
      clear hd
      go_enter Try.func39, Try.ntmps39
      go_wp2_with fail
      go_loop [11] (fun ri => ∃ k : Nat, k ≤ 1 ∧ ri = .int .i64 k) (fun ri => 2 - (intOf ri).toNat)
      case atStart => exact ⟨0, by omega, rfl⟩
      case round =>
        obtain ⟨k, hk, rfl⟩ := hrel
        obtain rfl | rfl : k = 0 ∨ k = 1 := by omega
        · go_wp2_with ((go_at_call 55; with_reducible refine (HC.out _).mono ?_); rintro e w' ⟨rfl, rfl⟩)
          go_round
          case rel => exact ⟨1, by omega, rfl⟩
          case measure => simp [intOf]
        · go_wp2_with ((go_at_call 55; with_reducible refine (HD.out _).mono ?_); rintro e w' ⟨rfl, rfl⟩)
          go_ret
          exact ⟨rfl, rfl⟩
  · have hv : cmp2V u i v j = cmpV u v := by unfold cmp2V; rw [if_pos hc]
    rw [hv]
    have hb : (cmpV u v != 0) = true := by rw [bne_iff_ne]; exact hc
    generalize cmpV u v = r at *
    clear hv hc
    go_enter Try.func39, Try.ntmps39
    go_wp2_with fail
    go_loop [11] (fun ri => ∃ k : Nat, k ≤ 0 ∧ ri = .int .i64 k) (fun ri => 2 - (intOf ri).toNat)
    case atStart => exact ⟨0, by omega, rfl⟩
    case round =>
      obtain ⟨k, hk, rfl⟩ := hrel
      obtain rfl : k = 0 := by omega
      go_wp2_with ((go_at_call 55; with_reducible refine (HC.out _).mono ?_); rintro e w' ⟨rfl, rfl⟩)
      go_ret
      exact ⟨rfl, rfl⟩
theorem Blk.new1 (w : World) (o : Obj) (t : TypeId) (cs : Array Value) : Blk ((w.alloc o).alloc (.cells cs t)) (w.heap.size + 1) t cs := by
  have := Blk.new (w.alloc o) t cs
  rwa [World.size_alloc] at this
theorem Blk.new2 (w : World) (o p : Obj) (t : TypeId) (cs : Array Value) : Blk (((w.alloc o).alloc p).alloc (.cells cs t)) (w.heap.size + 2) t cs := by
  have := Blk.new1 (w.alloc o) p t cs
  rwa [World.size_alloc] at this
end Go.Proofs.Ytfpmjaeehhegcaa
