/- Walks: words, wordBytes. Conditions: lengths as stated. -/
import Derived.Test.YtfpmjaeehhegcaaKeyA
import Derived.Deep.RegionHeld3
import Derived.Deep.RegionWith
import Derived.StillTailTactics
import Derived.Handy
namespace Go.Proofs.Ytfpmjaeehhegcaa
open Go.RowKit Kc

set_option maxHeartbeats 400000 in
theorem words_any {A : Option Addr} {n c : Nat} {l : List UInt8} {w : World} (h : At w 1 e8 A n c l) (hn : 16 ≤ n) :
    Calls Try.prog 57 #[.slice A n c] w fun e w' => e = .returned (.agg #[.int .u32 ((keyAt l 0).toNat : Int), .int .u32 ((keyAt l 1).toNat : Int), .int .u32 ((keyAt l 2).toNat : Int), .int .u32 ((keyAt l 3).toNat : Int)]) ∧ Ext w w' := by
  have hbd := h.boundc
  have hle := h.le
  obtain ⟨b, off, rfl, _⟩ := h.addr (by omega)
  have h4 := h.cutAt (k := 4) (by omega) (by omega)
  have h8 := h.cutAt (k := 8) (by omega) (by omega)
  have h12 := h.cutAt (k := 12) (by omega) (by omega)
  simp only [Nat.mul_one] at h4 h8 h12
  have i4 : (4:Int) ≤ (n:Int) := by omega
  have i8 : (8:Int) ≤ (n:Int) := by omega
  have i12 : (12:Int) ≤ (n:Int) := by omega
  have j4 : ¬ c = 4 := by omega
  have j8 : ¬ c = 8 := by omega
  have j12 : ¬ c = 12 := by omega
  have H := hide h; have H4 := hide h4; have H8 := hide h8; have H12 := hide h12
  clear h h4 h8 h12
  go_enter Try.func57, Try.ntmps57
  go_wp2_with fail
  go_region_held3 (fun _ => True) (first | trivial) (first
    | ((go_at_call 58; with_reducible refine (word_any (H.out.ext (by repeat' (first | (with_reducible exact Below.refl _ _) | (with_reducible assumption) | (with_reducible refine below_drewN ?_ _) | (with_reducible refine Below.drew ?_) | (with_reducible refine ext_alloc ?_ _) | (with_reducible refine Below.setCell ?_ ?_ _) | go_size))) (by omega)).mono ?_); rintro e w' ⟨rfl, nq, rfl⟩)
    | ((go_at_call 58; with_reducible refine (word_any (H4.out.ext (by repeat' (first | (with_reducible exact Below.refl _ _) | (with_reducible assumption) | (with_reducible refine below_drewN ?_ _) | (with_reducible refine Below.drew ?_) | (with_reducible refine ext_alloc ?_ _) | (with_reducible refine Below.setCell ?_ ?_ _) | go_size))) (by omega)).mono ?_); rintro e w' ⟨rfl, nq, rfl⟩)
    | ((go_at_call 58; with_reducible refine (word_any (H8.out.ext (by repeat' (first | (with_reducible exact Below.refl _ _) | (with_reducible assumption) | (with_reducible refine below_drewN ?_ _) | (with_reducible refine Below.drew ?_) | (with_reducible refine ext_alloc ?_ _) | (with_reducible refine Below.setCell ?_ ?_ _) | go_size))) (by omega)).mono ?_); rintro e w' ⟨rfl, nq, rfl⟩)
    | ((go_at_call 58; with_reducible refine (word_any (H12.out.ext (by repeat' (first | (with_reducible exact Below.refl _ _) | (with_reducible assumption) | (with_reducible refine below_drewN ?_ _) | (with_reducible refine Below.drew ?_) | (with_reducible refine ext_alloc ?_ _) | (with_reducible refine Below.setCell ?_ ?_ _) | go_size))) (by omega)).mono ?_); rintro e w' ⟨rfl, nq, rfl⟩))
  go_wp2
  go_returns
  exact ⟨rfl, (by repeat' (first | (with_reducible exact Below.refl _ _) | (with_reducible assumption) | (with_reducible refine below_drewN ?_ _) | (with_reducible refine Below.drew ?_) | (with_reducible refine ext_alloc ?_ _) | (with_reducible refine Below.setCell ?_ ?_ _) | go_size))⟩

/-- Eight bytes by value. -/
abbrev agg8 (l : List UInt8) : Value := .agg #[B8 (l.getD 0 0), B8 (l.getD 1 0), B8 (l.getD 2 0), B8 (l.getD 3 0), B8 (l.getD 4 0), B8 (l.getD 5 0), B8 (l.getD 6 0), B8 (l.getD 7 0)]
theorem Blk.set8 {w : World} {g : Nat} {t : TypeId} {c0 c1 c2 c3 c4 c5 c6 c7 : Value} (h : Blk w g t #[c0, c1, c2, c3, c4, c5, c6, c7]) (v0 v1 v2 v3 v4 v5 v6 v7 : Value) :
    Blk ((((((((w.setCell ⟨g, 0, none⟩ v0).setCell ⟨g, 1, none⟩ v1).setCell ⟨g, 2, none⟩ v2).setCell ⟨g, 3, none⟩ v3).setCell ⟨g, 4, none⟩ v4).setCell ⟨g, 5, none⟩ v5).setCell ⟨g, 6, none⟩ v6).setCell ⟨g, 7, none⟩ v7) g t #[v0, v1, v2, v3, v4, v5, v6, v7] := by
  have h8 := (((((((h.set_ 0 v0).set_ 1 v1).set_ 2 v2).set_ 3 v3).set_ 4 v4).set_ 5 v5).set_ 6 v6).set_ 7 v7
  simpa only [List.setIfInBounds_toArray, List.set_cons_zero, List.set_cons_succ] using h8
theorem Try.size86 : (Try.prog.info? 86).map (·.size) = some 8 := by kernel_rfl
/-- Eight bytes handed back out of the result's block. -/
theorem ret8 {fn : Func} {p : Tmp} (h : fn.results = #[.cell p 86]) (tmps : Array Value) {w : World} {g : Nat} {l : List UInt8}
    (hp : tmps.getD p undef = .pointer (some ⟨g, 0, none⟩)) (hg : Blk w g 86 #[B8 (l.getD 0 0), B8 (l.getD 1 0), B8 (l.getD 2 0), B8 (l.getD 3 0), B8 (l.getD 4 0), B8 (l.getD 5 0), B8 (l.getD 6 0), B8 (l.getD 7 0)]) :
    (results fn tmps).run Try.prog w = .ok (agg8 l) w := by
  exact results_cell_row h tmps w g _ _ _ _ hp hg Try.underlying86 rfl Try.size86
theorem u8_of32 (x : UInt32) : (x.toNat : Int) % (256 : Int) = ((x.toUInt8).toNat : Int) := by
  rw [UInt32.toNat_toUInt8]; omega
theorem u8_shr (x y : UInt32) (k : Int) (h : (x.toNat : Int) / k = (y.toNat : Int)) : (x.toNat : Int) / k % (256 : Int) = ((y.toUInt8).toNat : Int) := by
  rw [h, u8_of32]
theorem u32_shr24 (a : UInt32) : (a.toNat : Int) / (16777216 : Int) = ((a >>> 24).toNat : Int) := by
  rw [UInt32.toNat_shiftRight]; simp [Nat.shiftRight_eq_div_pow]
theorem u32_shr16 (a : UInt32) : (a.toNat : Int) / (65536 : Int) = ((a >>> 16).toNat : Int) := by
  rw [UInt32.toNat_shiftRight]; simp [Nat.shiftRight_eq_div_pow]
theorem u32_shr8 (a : UInt32) : (a.toNat : Int) / (256 : Int) = ((a >>> 8).toNat : Int) := by
  rw [UInt32.toNat_shiftRight]; simp [Nat.shiftRight_eq_div_pow]

set_option maxHeartbeats 400000 in
theorem wordBytes_any (a b : UInt32) (w : World) :
    Calls Try.prog 46 #[.int .u32 (a.toNat : Int), .int .u32 (b.toNat : Int)] w fun e w' => e = .returned (agg8 (bytes8 a b)) ∧ Ext w w' := by
  go_enter Try.func46, Try.ntmps46
  go_wp2
  go_returns
  refine ⟨ret_val ?_, (by repeat' (first | (with_reducible exact Below.refl _ _) | (with_reducible assumption) | (with_reducible refine below_drewN ?_ _) | (with_reducible refine Below.drew ?_) | (with_reducible refine ext_alloc ?_ _) | (with_reducible refine Below.setCell ?_ ?_ _) | go_size))⟩
  rw [u8_shr a (a >>> 24) _ (u32_shr24 a), u8_shr a (a >>> 16) _ (u32_shr16 a), u8_shr a (a >>> 8) _ (u32_shr8 a), u8_of32,
    u8_shr b (b >>> 24) _ (u32_shr24 b), u8_shr b (b >>> 16) _ (u32_shr16 b), u8_shr b (b >>> 8) _ (u32_shr8 b), u8_of32]
  rfl
end Go.Proofs.Ytfpmjaeehhegcaa
