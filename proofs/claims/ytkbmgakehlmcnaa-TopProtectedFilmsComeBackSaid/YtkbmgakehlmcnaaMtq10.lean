/- Several texts in one: Walk of the document's unchained. Conditions: lengths as stated; Walks of newStream and next. Conditions: lengths as stated; Walk of Counter of the program. Conditions: none; Plain law: so many blocks of a stream, cut. Conditions: none; Slice expressions of a slice that reads as a list: one equation, whatever its capacity. Conditions: bounds as stated. -/
import Derived.Test.YtkbmgakehlmcnaaMtq09
import Derived.Test.YtkbmgakehlmcnaaMtq07
import Derived.Test.YtkbmgakehlmcnaaMtq08
import Derived.Test.YtkbmgakehlmcnaaMtq03
import Derived.Test.YtkbmgakehlmcnaaMtq06
import Derived.Test.YtkbmgakehlmcnaaMtq00
namespace Go.Proofs.Ytkbmgakehlmcnaa
open Go.RowKit Kc
def ivU (v : List UInt8) : Nat := (wordL v).toNat * 4294967296 + (wordL (v.drop 4)).toNat
def blkAt (k v : List UInt8) (j : Nat) : List UInt8 := encB k (beL 8 ((ivU v + j) % 18446744073709551616))
def byteAt (k v : List UInt8) (p : Nat) : UInt8 := (blkAt k v (p / 8)).getD (p % 8) 0
theorem join64 (a b : UInt32) : bits .or .u64 ((a.toNat : Int) * 4294967296) (b.toNat : Int) = ((a.toNat * 4294967296 + b.toNat : Nat) : Int) := by
  have ha := u32lt a; have hb := u32lt b
  have h1 : ((a.toNat : Int) * 4294967296) = ((a.toNat * 4294967296 : Nat) : Int) := by omega
  rw [h1, u64_or_nat _ _ (by omega) (by omega)]
  congr 1
  exact nat_join 32 _ _ (by omega) (by omega)
def StreamAt (w : World) (g : Nat) (K : Value) (k v : List UInt8) (p : Nat) : Prop :=
  ∃ (blk : List UInt8) (r : Bool), Blk w g 144 #[K, .int .u64 (ivU v : Int), .int .i64 (p : Int), B8 (blk.getD 0 0), B8 (blk.getD 1 0), B8 (blk.getD 2 0), B8 (blk.getD 3 0), B8 (blk.getD 4 0), B8 (blk.getD 5 0), B8 (blk.getD 6 0), B8 (blk.getD 7 0), .bool r] ∧
    (r = true → p % 8 ≠ 0 → blk = blkAt k v (p / 8))
set_option maxRecDepth 100000 in
set_option maxHeartbeats 2000000 in
theorem newStream_any {A1 A2 : Option Addr} {n1 c1 c2 p : Nat} {k v : List UInt8} {w : World} (h2 : At w 1 e8 A2 8 c2 v) :
    Calls Try.prog 42 #[.slice A1 n1 c1, .slice A2 8 c2, .int .i64 p] w fun e w' => ∃ g, e = .returned (.pointer (some ⟨g, 0, none⟩)) ∧ w.heap.size ≤ g ∧ StreamAt w' g (.slice A1 n1 c1) k v p ∧ Ext w w' := by
  have hbd := h2.boundc
  have hle := h2.le
  obtain ⟨b, off, rfl, _⟩ := h2.addr (by omega)
  have h4 := h2.cutAt (k := 4) (by omega) (by omega)
  simp only [Nat.mul_one] at h4
  have i4 : (4:Int) ≤ (c2:Int) := by omega
  have j4 : ¬ c2 = 4 := by omega
  have H2 := hide h2; have H4 := hide h4
  clear h2 h4
  have la := u32lt (wordL v); have lb := u32lt (wordL (v.drop 4))
  have w1 : IntKind.u64.wrap ((wordL v).toNat : Int) = ((wordL v).toNat : Int) := by rw [IntKind.wrap_u64]; omega
  have w2 : IntKind.u64.wrap ((wordL (v.drop 4)).toNat : Int) = ((wordL (v.drop 4)).toNat : Int) := by rw [IntKind.wrap_u64]; omega
  have w3 : IntKind.u64.wrap (((wordL v).toNat : Int) * 4294967296) = ((wordL v).toNat : Int) * 4294967296 := by rw [IntKind.wrap_u64]; omega
  have w4 : bits .or .u64 (((wordL v).toNat : Int) * 4294967296) ((wordL (v.drop 4)).toNat : Int) = (ivU v : Int) := join64 _ _
  go_enter Try.func42, Try.ntmps42
  go_wp2_with fail
  go_region_held3 (fun _ => True) (first | trivial) (first
    | ((go_at_call 61; with_reducible refine (word_any (H2.out.ext (by repeat' (first | (with_reducible first | exact Below.refl _ _ | assumption | refine below_drewN ?_ _ | refine Below.drew ?_ | refine ext_alloc ?_ _ | refine Below.setCell ?_ ?_ _) | go_size))) (by omega)).mono ?_); rintro e w' ⟨rfl, nq, rfl⟩)
    | ((go_at_call 61; with_reducible refine (word_any (H4.out.ext (by repeat' (first | (with_reducible first | exact Below.refl _ _ | assumption | refine below_drewN ?_ _ | refine Below.drew ?_ | refine ext_alloc ?_ _ | refine Below.setCell ?_ ?_ _) | go_size))) (by omega)).mono ?_); rintro e w' ⟨rfl, nq, rfl⟩))
  clear w1 w2 w3 w4
  go_wp2_with fail
  go_ret
  refine ⟨w.heap.size, rfl, Nat.le_refl _, ⟨List.replicate 8 0, false, ?_, by simp⟩, ?_⟩
  · first
      | exact Blk.new w _ _
      | exact (Blk.new w _ _).drewN _
      | exact ((Blk.new w _ _).drewN _).drewN _
      | exact (((Blk.new w _ _).drewN _).drewN _).drewN _
  · exact (by repeat' (first | (with_reducible first | exact Below.refl _ _ | assumption | refine below_drewN ?_ _ | refine Below.drew ?_ | refine ext_alloc ?_ _ | refine Below.setCell ?_ ?_ _) | go_size))
theorem cell_other (w : World) (g i j : Nat) (v : Value) (h : i ≠ j) : (w.setCell ⟨g, i, none⟩ v).cell? ⟨g, j, none⟩ = w.cell? ⟨g, j, none⟩ :=
  World.cell?_setCell_other _ _ _ _ (by intro e; injection e with _ e _; exact h e)
set_option maxRecDepth 100000 in
set_option maxHeartbeats 4000000 in
theorem next_same {A1 : Option Addr} {c1 p g : Nat} {k v blk : List UInt8} {r : Bool} {w : World} (h1 : At w 1 e8 A1 16 c1 k)
    (hB : Blk w g 144 #[.slice A1 16 c1, .int .u64 (ivU v : Int), .int .i64 (p : Int), B8 (blk.getD 0 0), B8 (blk.getD 1 0), B8 (blk.getD 2 0), B8 (blk.getD 3 0), B8 (blk.getD 4 0), B8 (blk.getD 5 0), B8 (blk.getD 6 0), B8 (blk.getD 7 0), .bool r])
    (hrdy : r = true → p % 8 ≠ 0 → blk = blkAt k v (p / 8)) (hp : p ≤ 2000000000000000) (hc : r = true ∧ p % 8 ≠ 0) :
    Calls Try.prog 44 #[.pointer (some ⟨g, 0, none⟩)] w fun e w' => e = .returned (.int .u8 ((byteAt k v p).toNat : Int)) ∧ StreamAt w' g (.slice A1 16 c1) k v (p + 1) ∧ w.grownBy w' (some g) := by
  have hk0 := hB.cell 0; have hk1 := hB.cell 1; have hk2 := hB.cell 2; have hk11 := hB.cell 11
  have hfz := hB.frozen
  have hlt := hB.lt
  simp only [List.getElem?_toArray, List.getElem?_cons_zero, List.getElem?_cons_succ] at hk0 hk1 hk2 hk11
  have H1 := hide h1; have HB := hide hB; have HR := hide hrdy
  clear h1 hB hrdy
  obtain ⟨hr, h8⟩ := hc
  subst hr
  have h80 : ((p : Int) % 8 == 0) = false := by rw [beq_eq_false_iff_ne]; omega
  have hx := HR.out rfl h8
  obtain ⟨x, hxx⟩ : ∃ x, x = blk := ⟨_, rfl⟩
  have HXB : Hid (x = blkAt k v (p / 8)) := hide (by rw [hxx]; exact hx)
  have HB5 : Hid (Blk w g 144 #[.slice A1 16 c1, .int .u64 (ivU v : Int), .int .i64 (p : Int), B8 (x.getD 0 0), B8 (x.getD 1 0), B8 (x.getD 2 0), B8 (x.getD 3 0), B8 (x.getD 4 0), B8 (x.getD 5 0), B8 (x.getD 6 0), B8 (x.getD 7 0), .bool true]) := hide (by rw [hxx]; exact HB.out)
  have G5 : Hid (w.grownBy w (some g)) := hide (World.grownBy.refl w _)
  clear hx hxx HB HR
  go_enter Try.func44, Try.ntmps44
  have c2 := HB5.out.cell 2
  have f2 := HB5.out.frozen
  have g5 := HB5.out.lt
  simp only [List.getElem?_toArray, List.getElem?_cons_zero, List.getElem?_cons_succ] at c2
  go_wp2_with fail
  clear h80
  refine gen_wp fun W6 h6 => ?_
  have B6 : Hid (Blk W6 g 144 #[.slice A1 16 c1, .int .u64 (ivU v : Int), .int .i64 ((p : Int) + 1), B8 (x.getD 0 0), B8 (x.getD 1 0), B8 (x.getD 2 0), B8 (x.getD 3 0), B8 (x.getD 4 0), B8 (x.getD 5 0), B8 (x.getD 6 0), B8 (x.getD 7 0), .bool true]) := hide (by
    have q := HB5.out.set_ 2 (.int .i64 ((p : Int) + 1))
    rw [h6]
    simpa only [List.setIfInBounds_toArray, List.set_cons_zero, List.set_cons_succ] using q)
  have G6 : Hid (w.grownBy W6 (some g)) := hide (by rw [h6]; exact G5.out.trans (grown_setK _ _ _ _))
  clear h6 c2 f2 g5
  obtain ⟨q, hq⟩ : ∃ q, q = p % 8 := ⟨_, rfl⟩
  have hq8 : q < 8 := by omega
  have hq1 : (p : Int) % 8 = (q : Int) := by omega
  have hq2 : ((p : Int) + 1 - 1) % 8 = (q : Int) := by omega
  have d2 := B6.out.cell 2
  have d3 : W6.cell? ⟨g, 3 + q, none⟩ = some (B8 (x.getD q 0)) := by
    rw [B6.out.cell]
    match q, hq8 with
    | 0, _ | 1, _ | 2, _ | 3, _ | 4, _ | 5, _ | 6, _ | 7, _ => rfl
  have g6 := B6.out.lt
  have i0 : (0 : Int) ≤ (q : Int) := by omega
  have i1 : (q : Int) < 8 := by omega
  have HQ := hide hq
  have wp1 : IntKind.i64.wrap ((p : Int) + 1 - 1) = (p : Int) := by rw [IntKind.wrap_i64]; omega
  simp only [List.getElem?_toArray, List.getElem?_cons_zero, List.getElem?_cons_succ] at d2
  clear hq
  go_quiet (fail)
  go_wp2_with fail
  go_ret
  refine ⟨?_, ⟨x, true, by have q1 := B6.out.drewN nq; exact q1, fun _ h => ?_⟩, ?_⟩
  · rw [HXB.out, HQ.out]; rfl
  · rw [HXB.out, show (p + 1) / 8 = p / 8 by omega]
  · exact ⟨G6.out.os, G6.out.tape, G6.out.output, G6.out.size, G6.out.block⟩
set_option maxRecDepth 100000 in
set_option maxHeartbeats 4000000 in
theorem next_turn {A1 : Option Addr} {c1 p g : Nat} {k v blk : List UInt8} {r : Bool} {w : World} (h1 : At w 1 e8 A1 16 c1 k)
    (hB : Blk w g 144 #[.slice A1 16 c1, .int .u64 (ivU v : Int), .int .i64 (p : Int), B8 (blk.getD 0 0), B8 (blk.getD 1 0), B8 (blk.getD 2 0), B8 (blk.getD 3 0), B8 (blk.getD 4 0), B8 (blk.getD 5 0), B8 (blk.getD 6 0), B8 (blk.getD 7 0), .bool r])
    (hrdy : r = true → p % 8 ≠ 0 → blk = blkAt k v (p / 8)) (hp : p ≤ 2000000000000000) (hr : r = true) (h8 : p % 8 = 0) :
    Calls Try.prog 44 #[.pointer (some ⟨g, 0, none⟩)] w fun e w' => e = .returned (.int .u8 ((byteAt k v p).toNat : Int)) ∧ StreamAt w' g (.slice A1 16 c1) k v (p + 1) ∧ w.grownBy w' (some g) := by
  have hk0 := hB.cell 0; have hk1 := hB.cell 1; have hk2 := hB.cell 2; have hk11 := hB.cell 11
  have hfz := hB.frozen
  have hlt := hB.lt
  simp only [List.getElem?_toArray, List.getElem?_cons_zero, List.getElem?_cons_succ] at hk0 hk1 hk2 hk11
  have H1 := hide h1; have HB := hide hB; have HR := hide hrdy
  clear h1 hB hrdy
  obtain ⟨N, hN⟩ : ∃ N, N = (ivU v + p / 8) % 18446744073709551616 := ⟨_, rfl⟩
  have wn : IntKind.u64.wrap ((ivU v : Int) + (p : Int) / 8) = (N : Int) := by rw [IntKind.wrap_u64, hN]; omega
  have hNl : N < 18446744073709551616 := by omega
  have hn1 := u64hi N hNl
  have hn2 := u64lo N
  have hn3 : ((hiW N).toNat : Int) % 4294967296 = ((hiW N).toNat : Int) := by have := u32lt (hiW N); omega
  have HN := hide hN
  clear hN hNl
  subst hr
  have h80 : ((p : Int) % 8 == 0) = true := by simp; omega
  clear h8
  go_enter Try.func44, Try.ntmps44
  go_wp2_with fail
  go_quiet (fail)
  go_wp2_with fail
  refine (wordBytes_any _ _ _).mono ?_
  rintro e w2 ⟨rfl, e2⟩
  have hb8 : bytes8 (hiW N) (loW N) = beL 8 N := beL8 N
  generalize hz : bytes8 (hiW N) (loW N) = z at *
  have hz8 : z.length = 8 := by rw [hb8, length_beL]
  have HZ := hide hb8; have HZ8 := hide hz8
  have E2 : Ext w w2 := Ext.trans (Ext.drewN _ _) e2
  have z2 := E2.size
  clear hb8 hz hz8 wn hn1 hn2 hn3 h80 hk0 hk1 hk2 hk11 hfz e2
  go_wp2_with fail
  refine gen_wp fun W3 h3 => ?_
  have A3 : Hid (At W3 1 e8 (some ⟨w2.heap.size, 0, none⟩) 8 8 z) := hide (by rw [h3]; exact At.new8 w2 z HZ8.out 90)
  have E3 : Ext w W3 := by rw [h3]; exact ext_alloc E2 _
  have B3 := HB.out.ext E3
  have z3 := E3.size
  clear h3
  have hk0 := B3.cell 0
  simp only [List.getElem?_toArray, List.getElem?_cons_zero] at hk0
  have hk0d : W3.drew.cell? ⟨g, 0, none⟩ = some (.slice A1 16 c1) := hk0
  go_region_held3 (fun w' => w'.cell? ⟨g, 0, none⟩ = some (.slice A1 16 c1)) (first | (with_reducible exact hk0d) | (with_reducible exact E4.cell hk0) | (simp +decide only [cell_other]; with_reducible exact E4.cell hk0)) (first
    | ((go_at_call 32; with_reducible refine (encrypt_any (H1.out.ext (Ext.trans E3 (by repeat' (first | (with_reducible first | exact Below.refl _ _ | assumption | refine below_drewN ?_ _ | refine Below.drew ?_ | refine ext_alloc ?_ _ | refine Below.setCell ?_ ?_ _) | go_size)))) (A3.out.ext (by repeat' (first | (with_reducible first | exact Below.refl _ _ | assumption | refine below_drewN ?_ _ | refine Below.drew ?_ | refine ext_alloc ?_ _ | refine Below.setCell ?_ ?_ _) | go_size))) (by omega) (by omega)).mono ?_); rintro e w4 ⟨rfl, e4⟩; obtain ⟨x, hx⟩ : ∃ x, x = encB k z := ⟨_, rfl⟩; rw [← hx]; have HXX := hide hx; clear hx; have E4 : Ext W3 w4 := Ext.trans (Ext.drew _) e4; have B4 := B3.ext E4; have z4 := E4.size; have k0 := B4.cell 0; have k1 := B4.cell 1; have k2 := B4.cell 2; have k3 := B4.cell 3; have k4 := B4.cell 4; have k5 := B4.cell 5; have k6 := B4.cell 6; have k7 := B4.cell 7; have k8 := B4.cell 8; have k9 := B4.cell 9; have k10 := B4.cell 10; have k11 := B4.cell 11; have kf := B4.frozen; simp only [List.getElem?_toArray, List.getElem?_cons_zero, List.getElem?_cons_succ] at k0 k1 k2 k3 k4 k5 k6 k7 k8 k9 k10 k11))
  refine gen_then fun W5 h5 => ?_
  have HB5 : Hid (Blk W5 g 144 #[.slice A1 16 c1, .int .u64 (ivU v : Int), .int .i64 (p : Int), B8 (x.getD 0 0), B8 (x.getD 1 0), B8 (x.getD 2 0), B8 (x.getD 3 0), B8 (x.getD 4 0), B8 (x.getD 5 0), B8 (x.getD 6 0), B8 (x.getD 7 0), .bool true]) := hide (by
    have q := ((((((((B4.set_ 3 (B8 (x.getD 0 0))).set_ 4 (B8 (x.getD 1 0))).set_ 5 (B8 (x.getD 2 0))).set_ 6 (B8 (x.getD 3 0))).set_ 7 (B8 (x.getD 4 0))).set_ 8 (B8 (x.getD 5 0))).set_ 9 (B8 (x.getD 6 0))).set_ 10 (B8 (x.getD 7 0))).set_ 11 (.bool true)
    rw [h5]
    simp only [List.setIfInBounds_toArray, List.set_cons_zero, List.set_cons_succ] at q
    exact q)
  have G5 : Hid (w.grownBy W5 (some g)) := hide (by
    rw [h5]
    exact (ext_grown (Ext.trans E3 E4) _).trans (((((((((grown_setK _ _ _ _).trans (grown_setK _ _ _ _)).trans (grown_setK _ _ _ _)).trans (grown_setK _ _ _ _)).trans (grown_setK _ _ _ _)).trans (grown_setK _ _ _ _)).trans (grown_setK _ _ _ _)).trans (grown_setK _ _ _ _)).trans (grown_setK _ _ _ _)))
  have HXB : Hid (x = blkAt k v (p / 8)) := hide (by rw [HXX.out, HZ.out, HN.out]; rfl)
  clear h5 k0 k1 k2 k3 k4 k5 k6 k7 k8 k9 k10 k11 kf B3 B4 hk0 hk0d E4 E3 e4 z4 z3 z2 E2 A3 HZ HZ8 HB HR
  have c2 := HB5.out.cell 2
  have f2 := HB5.out.frozen
  have g5 := HB5.out.lt
  simp only [List.getElem?_toArray, List.getElem?_cons_zero, List.getElem?_cons_succ] at c2
  go_wp2_with fail
  refine gen_wp fun W6 h6 => ?_
  have B6 : Hid (Blk W6 g 144 #[.slice A1 16 c1, .int .u64 (ivU v : Int), .int .i64 ((p : Int) + 1), B8 (x.getD 0 0), B8 (x.getD 1 0), B8 (x.getD 2 0), B8 (x.getD 3 0), B8 (x.getD 4 0), B8 (x.getD 5 0), B8 (x.getD 6 0), B8 (x.getD 7 0), .bool true]) := hide (by
    have q := HB5.out.set_ 2 (.int .i64 ((p : Int) + 1))
    rw [h6]
    simpa only [List.setIfInBounds_toArray, List.set_cons_zero, List.set_cons_succ] using q)
  have G6 : Hid (w.grownBy W6 (some g)) := hide (by rw [h6]; exact G5.out.trans (grown_setK _ _ _ _))
  clear h6 c2 f2 g5
  obtain ⟨q, hq⟩ : ∃ q, q = p % 8 := ⟨_, rfl⟩
  have hq8 : q < 8 := by omega
  have hq1 : (p : Int) % 8 = (q : Int) := by omega
  have hq2 : ((p : Int) + 1 - 1) % 8 = (q : Int) := by omega
  have d2 := B6.out.cell 2
  have d3 : W6.cell? ⟨g, 3 + q, none⟩ = some (B8 (x.getD q 0)) := by
    rw [B6.out.cell]
    match q, hq8 with
    | 0, _ | 1, _ | 2, _ | 3, _ | 4, _ | 5, _ | 6, _ | 7, _ => rfl
  have g6 := B6.out.lt
  have i0 : (0 : Int) ≤ (q : Int) := by omega
  have i1 : (q : Int) < 8 := by omega
  have HQ := hide hq
  have wp1 : IntKind.i64.wrap ((p : Int) + 1 - 1) = (p : Int) := by rw [IntKind.wrap_i64]; omega
  simp only [List.getElem?_toArray, List.getElem?_cons_zero, List.getElem?_cons_succ] at d2
  clear hq
  go_quiet (fail)
  go_wp2_with fail
  go_ret
  refine ⟨?_, ⟨x, true, by have q1 := B6.out.drewN nq; exact q1, fun _ h => ?_⟩, ?_⟩
  · rw [HXB.out, HQ.out]; rfl
  · rw [HXB.out, show (p + 1) / 8 = p / 8 by omega]
  · exact ⟨G6.out.os, G6.out.tape, G6.out.output, G6.out.size, G6.out.block⟩
set_option maxRecDepth 100000 in
set_option maxHeartbeats 4000000 in
theorem next_first {A1 : Option Addr} {c1 p g : Nat} {k v blk : List UInt8} {r : Bool} {w : World} (h1 : At w 1 e8 A1 16 c1 k)
    (hB : Blk w g 144 #[.slice A1 16 c1, .int .u64 (ivU v : Int), .int .i64 (p : Int), B8 (blk.getD 0 0), B8 (blk.getD 1 0), B8 (blk.getD 2 0), B8 (blk.getD 3 0), B8 (blk.getD 4 0), B8 (blk.getD 5 0), B8 (blk.getD 6 0), B8 (blk.getD 7 0), .bool r])
    (hrdy : r = true → p % 8 ≠ 0 → blk = blkAt k v (p / 8)) (hp : p ≤ 2000000000000000) (hr : r = false) :
    Calls Try.prog 44 #[.pointer (some ⟨g, 0, none⟩)] w fun e w' => e = .returned (.int .u8 ((byteAt k v p).toNat : Int)) ∧ StreamAt w' g (.slice A1 16 c1) k v (p + 1) ∧ w.grownBy w' (some g) := by
  have hk0 := hB.cell 0; have hk1 := hB.cell 1; have hk2 := hB.cell 2; have hk11 := hB.cell 11
  have hfz := hB.frozen
  have hlt := hB.lt
  simp only [List.getElem?_toArray, List.getElem?_cons_zero, List.getElem?_cons_succ] at hk0 hk1 hk2 hk11
  have H1 := hide h1; have HB := hide hB; have HR := hide hrdy
  clear h1 hB hrdy
  obtain ⟨N, hN⟩ : ∃ N, N = (ivU v + p / 8) % 18446744073709551616 := ⟨_, rfl⟩
  have wn : IntKind.u64.wrap ((ivU v : Int) + (p : Int) / 8) = (N : Int) := by rw [IntKind.wrap_u64, hN]; omega
  have hNl : N < 18446744073709551616 := by omega
  have hn1 := u64hi N hNl
  have hn2 := u64lo N
  have hn3 : ((hiW N).toNat : Int) % 4294967296 = ((hiW N).toNat : Int) := by have := u32lt (hiW N); omega
  have HN := hide hN
  clear hN hNl
  subst hr
  go_enter Try.func44, Try.ntmps44
  go_wp2_with fail
  go_quiet (fail)
  go_wp2_with fail
  refine (wordBytes_any _ _ _).mono ?_
  rintro e w2 ⟨rfl, e2⟩
  have hb8 : bytes8 (hiW N) (loW N) = beL 8 N := beL8 N
  generalize hz : bytes8 (hiW N) (loW N) = z at *
  have hz8 : z.length = 8 := by rw [hb8, length_beL]
  have HZ := hide hb8; have HZ8 := hide hz8
  have E2 : Ext w w2 := Ext.trans (Ext.drewN _ _) e2
  have z2 := E2.size
  clear hb8 hz hz8 wn hn1 hn2 hn3 hk0 hk1 hk2 hk11 hfz e2
  go_wp2_with fail
  refine gen_wp fun W3 h3 => ?_
  have A3 : Hid (At W3 1 e8 (some ⟨w2.heap.size, 0, none⟩) 8 8 z) := hide (by rw [h3]; exact At.new8 w2 z HZ8.out 90)
  have E3 : Ext w W3 := by rw [h3]; exact ext_alloc E2 _
  have B3 := HB.out.ext E3
  have z3 := E3.size
  clear h3
  have hk0 := B3.cell 0
  simp only [List.getElem?_toArray, List.getElem?_cons_zero] at hk0
  have hk0d : W3.drew.cell? ⟨g, 0, none⟩ = some (.slice A1 16 c1) := hk0
  go_region_held3 (fun w' => w'.cell? ⟨g, 0, none⟩ = some (.slice A1 16 c1)) (first | (with_reducible exact hk0d) | (with_reducible exact E4.cell hk0) | (simp +decide only [cell_other]; with_reducible exact E4.cell hk0)) (first
    | ((go_at_call 32; with_reducible refine (encrypt_any (H1.out.ext (Ext.trans E3 (by repeat' (first | (with_reducible first | exact Below.refl _ _ | assumption | refine below_drewN ?_ _ | refine Below.drew ?_ | refine ext_alloc ?_ _ | refine Below.setCell ?_ ?_ _) | go_size)))) (A3.out.ext (by repeat' (first | (with_reducible first | exact Below.refl _ _ | assumption | refine below_drewN ?_ _ | refine Below.drew ?_ | refine ext_alloc ?_ _ | refine Below.setCell ?_ ?_ _) | go_size))) (by omega) (by omega)).mono ?_); rintro e w4 ⟨rfl, e4⟩; obtain ⟨x, hx⟩ : ∃ x, x = encB k z := ⟨_, rfl⟩; rw [← hx]; have HXX := hide hx; clear hx; have E4 : Ext W3 w4 := Ext.trans (Ext.drew _) e4; have B4 := B3.ext E4; have z4 := E4.size; have k0 := B4.cell 0; have k1 := B4.cell 1; have k2 := B4.cell 2; have k3 := B4.cell 3; have k4 := B4.cell 4; have k5 := B4.cell 5; have k6 := B4.cell 6; have k7 := B4.cell 7; have k8 := B4.cell 8; have k9 := B4.cell 9; have k10 := B4.cell 10; have k11 := B4.cell 11; have kf := B4.frozen; simp only [List.getElem?_toArray, List.getElem?_cons_zero, List.getElem?_cons_succ] at k0 k1 k2 k3 k4 k5 k6 k7 k8 k9 k10 k11))
  refine gen_then fun W5 h5 => ?_
  have HB5 : Hid (Blk W5 g 144 #[.slice A1 16 c1, .int .u64 (ivU v : Int), .int .i64 (p : Int), B8 (x.getD 0 0), B8 (x.getD 1 0), B8 (x.getD 2 0), B8 (x.getD 3 0), B8 (x.getD 4 0), B8 (x.getD 5 0), B8 (x.getD 6 0), B8 (x.getD 7 0), .bool true]) := hide (by
    have q := ((((((((B4.set_ 3 (B8 (x.getD 0 0))).set_ 4 (B8 (x.getD 1 0))).set_ 5 (B8 (x.getD 2 0))).set_ 6 (B8 (x.getD 3 0))).set_ 7 (B8 (x.getD 4 0))).set_ 8 (B8 (x.getD 5 0))).set_ 9 (B8 (x.getD 6 0))).set_ 10 (B8 (x.getD 7 0))).set_ 11 (.bool true)
    rw [h5]
    simp only [List.setIfInBounds_toArray, List.set_cons_zero, List.set_cons_succ] at q
    exact q)
  have G5 : Hid (w.grownBy W5 (some g)) := hide (by
    rw [h5]
    exact (ext_grown (Ext.trans E3 E4) _).trans (((((((((grown_setK _ _ _ _).trans (grown_setK _ _ _ _)).trans (grown_setK _ _ _ _)).trans (grown_setK _ _ _ _)).trans (grown_setK _ _ _ _)).trans (grown_setK _ _ _ _)).trans (grown_setK _ _ _ _)).trans (grown_setK _ _ _ _)).trans (grown_setK _ _ _ _)))
  have HXB : Hid (x = blkAt k v (p / 8)) := hide (by rw [HXX.out, HZ.out, HN.out]; rfl)
  clear h5 k0 k1 k2 k3 k4 k5 k6 k7 k8 k9 k10 k11 kf B3 B4 hk0 hk0d E4 E3 e4 z4 z3 z2 E2 A3 HZ HZ8 HB HR
  have c2 := HB5.out.cell 2
  have f2 := HB5.out.frozen
  have g5 := HB5.out.lt
  simp only [List.getElem?_toArray, List.getElem?_cons_zero, List.getElem?_cons_succ] at c2
  go_wp2_with fail
  refine gen_wp fun W6 h6 => ?_
  have B6 : Hid (Blk W6 g 144 #[.slice A1 16 c1, .int .u64 (ivU v : Int), .int .i64 ((p : Int) + 1), B8 (x.getD 0 0), B8 (x.getD 1 0), B8 (x.getD 2 0), B8 (x.getD 3 0), B8 (x.getD 4 0), B8 (x.getD 5 0), B8 (x.getD 6 0), B8 (x.getD 7 0), .bool true]) := hide (by
    have q := HB5.out.set_ 2 (.int .i64 ((p : Int) + 1))
    rw [h6]
    simpa only [List.setIfInBounds_toArray, List.set_cons_zero, List.set_cons_succ] using q)
  have G6 : Hid (w.grownBy W6 (some g)) := hide (by rw [h6]; exact G5.out.trans (grown_setK _ _ _ _))
  clear h6 c2 f2 g5
  obtain ⟨q, hq⟩ : ∃ q, q = p % 8 := ⟨_, rfl⟩
  have hq8 : q < 8 := by omega
  have hq1 : (p : Int) % 8 = (q : Int) := by omega
  have hq2 : ((p : Int) + 1 - 1) % 8 = (q : Int) := by omega
  have d2 := B6.out.cell 2
  have d3 : W6.cell? ⟨g, 3 + q, none⟩ = some (B8 (x.getD q 0)) := by
    rw [B6.out.cell]
    match q, hq8 with
    | 0, _ | 1, _ | 2, _ | 3, _ | 4, _ | 5, _ | 6, _ | 7, _ => rfl
  have g6 := B6.out.lt
  have i0 : (0 : Int) ≤ (q : Int) := by omega
  have i1 : (q : Int) < 8 := by omega
  have HQ := hide hq
  have wp1 : IntKind.i64.wrap ((p : Int) + 1 - 1) = (p : Int) := by rw [IntKind.wrap_i64]; omega
  simp only [List.getElem?_toArray, List.getElem?_cons_zero, List.getElem?_cons_succ] at d2
  clear hq
  go_quiet (fail)
  go_wp2_with fail
  go_ret
  refine ⟨?_, ⟨x, true, by have q1 := B6.out.drewN nq; exact q1, fun _ h => ?_⟩, ?_⟩
  · rw [HXB.out, HQ.out]; rfl
  · rw [HXB.out, show (p + 1) / 8 = p / 8 by omega]
  · exact ⟨G6.out.os, G6.out.tape, G6.out.output, G6.out.size, G6.out.block⟩
theorem next_any {A1 : Option Addr} {c1 p g : Nat} {k v : List UInt8} {w : World} (h1 : At w 1 e8 A1 16 c1 k) (hs : StreamAt w g (.slice A1 16 c1) k v p) (hp : p ≤ 2000000000000000) :
    Calls Try.prog 44 #[.pointer (some ⟨g, 0, none⟩)] w fun e w' => e = .returned (.int .u8 ((byteAt k v p).toNat : Int)) ∧ StreamAt w' g (.slice A1 16 c1) k v (p + 1) ∧ w.grownBy w' (some g) := by
  obtain ⟨blk, r, hB, hrdy⟩ := hs
  by_cases hr : r = true
  · by_cases h8 : p % 8 = 0
    · exact next_turn h1 hB hrdy hp hr h8
    · exact next_same h1 hB hrdy hp ⟨hr, h8⟩
  · exact next_first h1 hB hrdy hp (by simpa using hr)
def strL (k v : List UInt8) (p n : Nat) : List UInt8 := (List.range n).map fun j => byteAt k v (p + j)
theorem strL_get (k v : List UInt8) (p n j : Nat) (h : j < n) : (strL k v p n).getD j 0 = byteAt k v (p + j) := by simp [strL, List.getD, h]
theorem StreamAt.far {w : World} {g : Nat} {K : Value} {k v : List UInt8} {p : Nat} (h : StreamAt w g K k v p) {a : Addr} (hne : g ≠ a.block) (u : Value) : StreamAt (w.setCell a u) g K k v p := by
  obtain ⟨blk, r, hB, hr⟩ := h
  exact ⟨blk, r, hB.far hne u, hr⟩
theorem StreamAt.ext {w w' : World} {g : Nat} {K : Value} {k v : List UInt8} {p : Nat} (h : StreamAt w g K k v p) (he : Ext w w') : StreamAt w' g K k v p := by
  obtain ⟨blk, r, hB, hr⟩ := h
  exact ⟨blk, r, hB.ext he, hr⟩
theorem StreamAt.lt {w : World} {g : Nat} {K : Value} {k v : List UInt8} {p : Nat} (h : StreamAt w g K k v p) : g < w.heap.size := by
  obtain ⟨blk, r, hB, hr⟩ := h
  exact hB.lt
end Go.Proofs.Ytkbmgakehlmcnaa
namespace Go.Proofs.Ytkbmgakehlmcnaa
open Go.RowKit
theorem At.range_ {α : Type} {P : Program} {T elem : TypeId} {sz : Nat} {enc : α → List Value} {A : Option Addr} {n c : Nat} {xs : List α} {w : World} (hu : P.underlying T = some (.slice elem)) (hs : ∀ W, (Go.sizeOf elem).run P W = .ok sz W)
    (h : At w sz enc A n c xs) {k m : Nat} (hk : k ≤ m) (hm : m ≤ n) (i j : Int) (hi : i = (k : Int)) (hj : j = (m : Int)) :
    ∃ A', (∀ W, (Instr.slice T (.slice A n c) (some (.int .i64 i)) (some (.int .i64 j)) none).run P W = .ok (.slice A' (m - k) (c - k)) W) ∧ (∀ W, At W sz enc A n c xs → At W sz enc A' (m - k) (c - k) ((xs.drop k).take (m - k))) := by
  subst hi; subst hj
  refine ⟨if c = k then A else A.map (·.add (k * sz)), fun W => ?_, fun W hW => ((hW.cut (k := k) (by omega)).upto (k := m - k) (by omega))⟩
  have _hle := h.le
  simp [Instr.slice, run_underlying hu, Instr.sliceBounds, Instr.sliceBound, asIntOf, hs, go_sem, hk, show m ≤ c by omega]
end Go.Proofs.Ytkbmgakehlmcnaa
