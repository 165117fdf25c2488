/- Walk: awake. Conditions: none. -/
import Derived.Test.YtoliplgadhdgbaaDoorBoxD
namespace Go.Proofs.YtoliplgadhdgbaaDoor
open Go.RowKit
/-- A fresh block of bytes reads as its list. -/
theorem At.newB (w : World) (l : List UInt8) (cs : Array Value) (t : TypeId) (hc : cs.toList = l.map B8) (hl : l.length ≤ maxLen) : At (w.alloc (.cells cs t)) 1 e8 (some ⟨w.heap.size, 0, none⟩) l.length l.length l :=
  ⟨rfl, Nat.le_refl _, hl, fun h => (by cases h), fun k z hz => ⟨_, _, rfl, fun j v hv => by
    match j, hv with
    | 0, hv =>
      simp at hv; subst hv
      have := (Blk.new w t cs).cell k
      rw [show 0 + k * 1 + 0 = k by omega, this]
      have h2 : cs.toList[k]? = some (B8 z) := by rw [hc, List.getElem?_map, hz]; rfl
      simpa using h2
    | j + 1, hv => simp at hv⟩⟩
theorem parse_awake : parseF [0, 0, 0, 9, 97, 98, 99, 100, 7] = .ok [.mk [97, 98, 99, 100] 0 0 8 9 []] 1 := by kernel_rfl
set_option maxRecDepth 100000 in
set_option maxHeartbeats 1000000 in
theorem awake_any (w : World) : Calls Tryd.prog 10 #[] w fun e w' => e = .returned (.bool true) ∧ Ext w w' := by
  have hat : At (w.alloc (.cells #[.int .u8 0, .int .u8 0, .int .u8 0, .int .u8 9, .int .u8 97, .int .u8 98, .int .u8 99, .int .u8 100, .int .u8 7] 5)) 1 e8 (some ⟨w.heap.size, 0, none⟩) 9 9 [0, 0, 0, 9, 97, 98, 99, 100, 7] := At.newB w [0, 0, 0, 9, 97, 98, 99, 100, 7] #[.int .u8 0, .int .u8 0, .int .u8 0, .int .u8 9, .int .u8 97, .int .u8 98, .int .u8 99, .int .u8 100, .int .u8 7] 5 rfl (by unfold maxLen; simp)
  have HP := hide (keyParse_any hat)
  clear hat
  go_enter Tryd.func10, Tryd.ntmps10
  go_wp2_with fail
  with_reducible refine HP.out.mono ?_
  intro e w1 hg
  obtain ⟨e1, _, hok⟩ := hg
  obtain ⟨N, c2, he, hbx⟩ := hok _ _ parse_awake
  have E1 := hide e1
  have hk : (boxesOf [0, 0, 0, 9, 97, 98, 99, 100, 7] [.mk [97, 98, 99, 100] 0 0 8 9 []]) = [.mk [97, 98, 99, 100] 0 [7] []] := rfl
  rw [hk] at hbx
  have he : e = .returned (.tuple #[.slice N 1 c2, .int .i64 0, .int .i64 0]) := he
  subst he
  obtain ⟨hs, hat, hl, h1⟩ : ∃ hs : List BoxH, At w1 4 eBx N 1 c2 hs ∧ hs.length = 1 ∧ (∀ (i : Nat) (y : BoxH) (x : BoxT), hs[i]? = some y → [BoxT.mk [97, 98, 99, 100] 0 [7] []][i]? = some x → BxHd w1 (fun k => (w.alloc (.cells #[.int .u8 0, .int .u8 0, .int .u8 0, .int .u8 9, .int .u8 97, .int .u8 98, .int .u8 99, .int .u8 100, .int .u8 7] 5)).heap.size ≤ k ∧ k < w1.heap.size) y x) := by
    cases hbx with
    | mk hs l3 a1 a2 a3 a4 a5 => exact ⟨hs, a1, a3, a4⟩
  match hs, hl with
  | [y], _ =>
    have hy := (h1 0 y _ rfl rfl).1
    obtain ⟨bN, oN, rfl, _⟩ := hat.addr (by omega)
    have c0 := hat.cellK (k := 0) (by omega) y 0 _ rfl
    rw [Nat.zero_mul, Nat.add_zero, show [y].getD 0 y = y from rfl, hy] at c0
    have c0 : w1.cell? ⟨bN, oN, none⟩ = some (.string ⟨#[97, 98, 99, 100]⟩) := c0
    clear e1 hok hbx hk hat h1 hy HP
    go_wp2_with fail
    go_ret
    exact ⟨rfl, Ext.trans (Ext.alloc _ _) E1.out⟩
end Go.Proofs.YtoliplgadhdgbaaDoor
