/- Walks: estimate, wide.Compare, byRate, exactly. Conditions as stated. -/
import Derived.Test.YtfelgolfebhmkaaDoorMtm36
import Derived.Test.YtfelgolfebhmkaaDoorMtm37
namespace Go.Proofs.YtfelgolfebhmkaaDoor
open Go.RowKit
theorem sizeHaul : ∀ W, (Go.sizeOf 81).run Tryd.prog W = .ok 2 W := fun _ => by kernel_rfl
def sumB (l : List (Int × Int)) : Int := (l.map fun x => x.1).sum
def sumG (l : List (Int × Int)) : Int := (l.map fun x => x.2).sum
theorem take_snoc {l : List (Int × Int)} {k : Nat} (h : k < l.length) : l.take (k + 1) = l.take k ++ [l.getD k (0, 0)] := by
  rw [List.take_succ_eq_append_getElem h]; simp [List.getD, h]
theorem sumB_succ {l : List (Int × Int)} {k : Nat} (h : k < l.length) : sumB (l.take (k + 1)) = sumB (l.take k) + (l.getD k (0, 0)).1 := by
  unfold sumB; rw [take_snoc h]; simp
theorem sumG_succ {l : List (Int × Int)} {k : Nat} (h : k < l.length) : sumG (l.take (k + 1)) = sumG (l.take k) + (l.getD k (0, 0)).2 := by
  unfold sumG; rw [take_snoc h]; simp
theorem sums_bd {l : List (Int × Int)} (h : ∀ j, j < l.length → okH (l.getD j (0, 0)) = true) : ∀ k, k ≤ l.length → (0 ≤ sumB (l.take k) ∧ sumB (l.take k) ≤ 1000000000 * k) ∧ (0 ≤ sumG (l.take k) ∧ sumG (l.take k) ≤ 2000000000000 * k)
  | 0, _ => by simp [sumB, sumG]
  | k + 1, hk => by
    have ih := sums_bd h k (by omega)
    have hj := h k (by omega)
    unfold okH at hj
    rw [decide_eq_true_iff] at hj
    rw [sumB_succ (by omega), sumG_succ (by omega)]
    omega
theorem okH_drop {l : List (Int × Int)} (h : ∀ j, j < l.length → okH (l.getD j (0, 0)) = true) (k : Nat) : ∀ j, j < (l.drop k).length → okH ((l.drop k).getD j (0, 0)) = true := fun j hj => by
  rw [List.length_drop] at hj
  have := h (k + j) (by omega)
  simpa [List.getD] using this
set_option maxRecDepth 100000 in
set_option maxHeartbeats 4000000 in
theorem estimate_any {A : Option Addr} {n c : Nat} {l : List (Int × Int)} {w : World} {last : Nat} (h : At w 2 e2 A n c l) (hn : n ≤ 200) (hla : last ≤ 1000) (hok : ∀ j, j < l.length → okH (l.getD j (0, 0)) = true) :
    Calls Tryd.prog 45 #[.slice A n c, .int .i64 (last : Int)] w fun e w' => e = .returned (.tuple #[.int .i64 (sumB (l.drop (n - last))), .int .i64 (sumG (l.drop (n - last)))]) ∧ Ext w w' := by
  obtain ⟨A', sx, hx⟩ := h.from_ Tryd.underlying55 sizeHaul (k := n - last) (by omega) (max 0 ((n : Int) - (last : Int))) (by omega)
  have hM := hx w h
  have hl := h.len
  have hok2 := okH_drop hok (n - last)
  have hml : (l.drop (n - last)).length = n - (n - last) := hM.len
  have hbd := sums_bd hok2
  clear hok hok2
  have hfull : (l.drop (n - last)).take (n - (n - last)) = l.drop (n - last) := by rw [← hml, List.take_length]
  generalize l.drop (n - last) = M at *
  have hm : n - (n - last) ≤ 200 := by omega
  generalize n - (n - last) = m at *
  generalize c - (n - last) = c' at *
  have HB := hide hbd
  have HML := hide hml
  have HS1 := hide (fun j (hj : j < m) => sumB_succ (l := M) (k := j) (by omega))
  have HS2 := hide (fun j (hj : j < m) => sumG_succ (l := M) (k := j) (by omega))
  have HOK := hide hM
  have HFU := hide hfull
  have wl : IntKind.i64.wrap ((n : Int) - (last : Int)) = (n : Int) - (last : Int) := by rw [IntKind.wrap_i64]; omega
  clear hx hM hl hbd hml h hfull
  go_enter Tryd.func45, Tryd.ntmps45
  go_wp2_with fail
  go_loopw [6, 7, 18] (fun rb rg ri wr => ∃ k : Nat, k ≤ m ∧ ri = .int .i64 k ∧ rb = .int .i64 (sumB (M.take k)) ∧ rg = .int .i64 (sumG (M.take k)) ∧ Hid (Ext w wr)) (fun _ _ ri _ => m - (intOf ri).toNat)
  case atStart => exact ⟨0, by omega, rfl, rfl, rfl, hide (Ext.refl _)⟩
  case round =>
    obtain ⟨k, hk, rfl, rfl, rfl, HX⟩ := hrel
    by_cases hlt : k < m
    · obtain ⟨b, off, rfl, _⟩ := HOK.out.addr (by omega)
      obtain ⟨a1, a2⟩ := (HOK.out.ext HX.out).pair hlt
      have hb := HB.out k (by have := HML.out; omega)
      have hb1 := HB.out (k + 1) (by have := HML.out; omega)
      have HE1 := hide (HS1.out k hlt)
      have HE2 := hide (HS2.out k hlt)
      rw [HE1.out, HE2.out] at hb1
      generalize sumB (M.take k) = b0 at *
      generalize sumG (M.take k) = g0 at *
      generalize (M.getD k (0, 0)).1 = y0' at *
      generalize (M.getD k (0, 0)).2 = y1' at *
      have u1 : IntKind.i64.wrap (b0 + y0') = b0 + y0' := by rw [IntKind.wrap_i64]; omega
      have u2 : IntKind.i64.wrap (g0 + y1') = g0 + y1' := by rw [IntKind.wrap_i64]; omega
      clear hb hb1
      go_wp2_with fail
      go_roundw
      case rel => exact ⟨k + 1, by omega, by go_num, by rw [HE1.out], by rw [HE2.out], hide (Ext.trans HX.out (by repeat' (first | (with_reducible first | exact Below.refl _ _ | assumption | refine below_drewN ?_ _ | refine Below.drew ?_ | refine ext_alloc ?_ _ | refine Below.setCell ?_ ?_ _) | go_size)))⟩
      case measure => simp [intOf]; omega
    · obtain rfl : k = m := by omega
      rw [HFU.out]
      go_wp2
      go_ret2
      exact ⟨rfl, HX.out⟩
theorem compareW_any {a b c d : Int} (ha : 0 ≤ a ∧ a < 9223372036854775808) (hb : 0 ≤ b ∧ b < 9223372036854775808) (hc : 0 ≤ c ∧ c < 9223372036854775808) (hd : 0 ≤ d ∧ d < 9223372036854775808) (w : World) :
    Calls Tryd.prog 46 #[.int .i64 a, .int .i64 b, .int .i64 c, .int .i64 d] w fun e w' => e = .returned (.int .i64 (cmpI ((a.toNat * d.toNat : Nat) : Int) ((c.toNat * b.toNat : Nat) : Int))) ∧ Ext w w' := by
  have H1 := hide (fun (W : World) => times_int ha hd W)
  have H2 := hide (fun (W : World) => times_int hc hb W)
  have HC := hide (fun (W : World) => compare128 (a.toNat * d.toNat) (c.toNat * b.toNat) W)
  generalize a.toNat * d.toNat = p at *
  generalize c.toNat * b.toNat = q at *
  unfold i128 at H1 H2 HC
  generalize cmpI (p : Int) (q : Int) = v at *
  generalize ((p / 18446744073709551616 : Nat) : Int) = p1 at *
  generalize ((p % 18446744073709551616 : Nat) : Int) = p2 at *
  generalize ((q / 18446744073709551616 : Nat) : Int) = q1 at *
  generalize ((q % 18446744073709551616 : Nat) : Int) = q2 at *
  clear ha hb hc hd
  go_enter Tryd.func46, Tryd.ntmps46
  go_wp2_with fail
  refine (H1.out _).mono ?_
  rintro e w1 ⟨rfl, e1⟩
  go_wp2_with fail
  refine (H2.out _).mono ?_
  rintro e w2 ⟨rfl, e2⟩
  go_wp2_with fail
  refine (HC.out _).mono ?_
  rintro e w3 ⟨rfl, e3⟩
  go_wp2_with fail
  go_ret
  exact ⟨rfl, Ext.trans e1 (Ext.trans e2 e3)⟩
def rateC (R : List Int) (bits long part : Int) : Int := if long = 0 then (R.length : Int) - 1 else lastF (fun i => decide (R.getD i 0 * long ≤ bits * part)) R.length
theorem rateC_bd {R : List Int} {bits long part : Int} (h : 0 < R.length) : 0 ≤ rateC R bits long part ∧ rateC R bits long part < R.length := by
  unfold rateC
  have := lastF_bd (fun i => decide (R.getD i 0 * long ≤ bits * part)) R.length
  split <;> omega
section
variable {lA : Option Addr} {ln lc : Nat} {sA : Option Addr} {sn sc : Nat} {qA : Option Addr} {qn qc : Nat} {L : List Int} {S : List (List Int)} {Q : List Int} {d0 s0 r0 f0 i0 k0 l0 t0 lo0 hi0 a0 x0 y0 z0 : Int} {nx tm bu bf : Int} {ldA : Option Addr} {ldn ldc : Nat} {w : World} {LD : List (Int × Int)}
set_option maxRecDepth 1000000 in
set_option maxHeartbeats 8000000 in
theorem byRate_any {la : Nat} (h : Shw w lA ln lc sA sn sc qA qn qc L S Q) (ok : FilmOk L S Q) (hl0 : l0 = (la : Int)) (hla : la ≤ 1000) (ht : 0 ≤ t0 ∧ t0 ≤ 10000) (hLD : At w 2 e2 ldA ldn ldc LD) (hn : ldn ≤ 200) (hok : ∀ j, j < LD.length → okH (LD.getD j (0, 0)) = true) :
    Calls Tryd.prog 32 #[shV lA ln lc sA sn sc qA qn qc, plV d0 s0 r0 f0 i0 k0 l0 t0 lo0 hi0 a0 x0 y0 z0, .agg #[.int .i64 nx, .int .i64 tm, .int .i64 bu, .slice ldA ldn ldc, .int .i64 bf]] w fun e w' => e = .returned (.int .i64 (rateC (ratesL L S) (sumB (LD.drop (ldn - la))) (sumG (LD.drop (ldn - la))) t0)) ∧ Ext w w' := by
  have HX : Hid (Ext w (((w.alloc (.cells #[.slice lA ln lc, .slice sA sn sc, .slice qA qn qc] 25)).alloc (.cells #[.int .i64 d0, .int .i64 s0, .int .i64 r0, .int .i64 f0, .int .i64 i0, .int .i64 k0, .int .i64 l0, .int .i64 t0, .int .i64 lo0, .int .i64 hi0, .int .i64 a0, .int .i64 x0, .int .i64 y0, .int .i64 z0] 29)).alloc (.cells #[.int .i64 nx, .int .i64 tm, .int .i64 bu, .slice ldA ldn ldc, .int .i64 bf] 57))) := hide (ext_alloc (ext_alloc (Ext.alloc _ _) _) _)
  have hb0 := ((Blk.new w 25 #[.slice lA ln lc, .slice sA sn sc, .slice qA qn qc]).alloc (.cells #[.int .i64 d0, .int .i64 s0, .int .i64 r0, .int .i64 f0, .int .i64 i0, .int .i64 k0, .int .i64 l0, .int .i64 t0, .int .i64 lo0, .int .i64 hi0, .int .i64 a0, .int .i64 x0, .int .i64 y0, .int .i64 z0] 29)).alloc (.cells #[.int .i64 nx, .int .i64 tm, .int .i64 bu, .slice ldA ldn ldc, .int .i64 bf] 57)
  have hb1 := (Blk.new (w.alloc (.cells #[.slice lA ln lc, .slice sA sn sc, .slice qA qn qc] 25)) 29 #[.int .i64 d0, .int .i64 s0, .int .i64 r0, .int .i64 f0, .int .i64 i0, .int .i64 k0, .int .i64 l0, .int .i64 t0, .int .i64 lo0, .int .i64 hi0, .int .i64 a0, .int .i64 x0, .int .i64 y0, .int .i64 z0]).alloc (.cells #[.int .i64 nx, .int .i64 tm, .int .i64 bu, .slice ldA ldn ldc, .int .i64 bf] 57)
  have hb2 := Blk.new ((w.alloc (.cells #[.slice lA ln lc, .slice sA sn sc, .slice qA qn qc] 25)).alloc (.cells #[.int .i64 d0, .int .i64 s0, .int .i64 r0, .int .i64 f0, .int .i64 i0, .int .i64 k0, .int .i64 l0, .int .i64 t0, .int .i64 lo0, .int .i64 hi0, .int .i64 a0, .int .i64 x0, .int .i64 y0, .int .i64 z0] 29)) 57 #[.int .i64 nx, .int .i64 tm, .int .i64 bu, .slice ldA ldn ldc, .int .i64 bf]
  simp only [World.size_alloc] at hb1 hb2
  have B0 := hide hb0
  have B1 := hide hb1
  have B2 := hide hb2
  clear hb0 hb1 hb2
  have HES := hide (fun (W : World) (hW : Ext w W) => estimate_any (last := la) (hLD.ext hW) hn hla hok)
  rw [← hl0] at HES
  have hbd := sums_bd (okH_drop hok (ldn - la)) (LD.drop (ldn - la)).length (Nat.le_refl _)
  rw [List.take_length] at hbd
  have hdl : (LD.drop (ldn - la)).length ≤ 200 := by rw [List.length_drop]; have := hLD.len; omega
  have HMR := hide (fun (W : World) (hW : Ext w W) => keyMean_any (h.ext hW) ok)
  have HRB := hide (fun i (hi : i < S.length) => rates_bd ok hi)
  have hs0 := ok.s0
  have hs1 := ok.s1
  have HSL := hide (rates_len (L := L) (S := S))
  have HSS := hide h.sizes.len
  clear h ok hLD hok
  generalize (LD.drop (ldn - la)).length = dl at *
  generalize sumB (LD.drop (ldn - la)) = bits at *
  generalize sumG (LD.drop (ldn - la)) = long at *
  obtain ⟨⟨hb1, hb2⟩, hg1, hg2⟩ := hbd
  have hb3 : bits ≤ 200000000000 := by omega
  have hg3 : long ≤ 400000000000000 := by omega
  clear hb2 hg2 hdl hl0
  obtain ⟨v, hv⟩ : ∃ v, v = rateC (ratesL L S) bits long t0 := ⟨_, rfl⟩
  rw [← hv]
  have HVV := hide hv
  clear hv
  have wsn : IntKind.i64.wrap ((sn : Int) - 1) = (sn : Int) - 1 := by have := HSS.out; rw [IntKind.wrap_i64]; omega
  go_enter Tryd.func32, Tryd.ntmps32
  have rr0 := (B0.out.ext ((Ext.refl _))).cell 0
  have rr1 := (B0.out.ext ((Ext.refl _))).cell 1
  have rr2 := (B0.out.ext ((Ext.refl _))).cell 2
  have p0 := (B1.out.ext ((Ext.refl _))).cell 0
  have p1 := (B1.out.ext ((Ext.refl _))).cell 1
  have p2 := (B1.out.ext ((Ext.refl _))).cell 2
  have p3 := (B1.out.ext ((Ext.refl _))).cell 3
  have p4 := (B1.out.ext ((Ext.refl _))).cell 4
  have p5 := (B1.out.ext ((Ext.refl _))).cell 5
  have p6 := (B1.out.ext ((Ext.refl _))).cell 6
  have p7 := (B1.out.ext ((Ext.refl _))).cell 7
  have p8 := (B1.out.ext ((Ext.refl _))).cell 8
  have p9 := (B1.out.ext ((Ext.refl _))).cell 9
  have p10 := (B1.out.ext ((Ext.refl _))).cell 10
  have p11 := (B1.out.ext ((Ext.refl _))).cell 11
  have p12 := (B1.out.ext ((Ext.refl _))).cell 12
  have p13 := (B1.out.ext ((Ext.refl _))).cell 13
  have s0_ := (B2.out.ext ((Ext.refl _))).cell 0
  have s1_ := (B2.out.ext ((Ext.refl _))).cell 1
  have s2_ := (B2.out.ext ((Ext.refl _))).cell 2
  have s3_ := (B2.out.ext ((Ext.refl _))).cell 3
  have s4_ := (B2.out.ext ((Ext.refl _))).cell 4
  go_wp2_with fail
  refine (HES.out _ HX.out).mono ?_
  rintro e w1 ⟨rfl, e1⟩
  clear rr0 rr1 rr2 p0 p1 p2 p3 p4 p5 p6 p7 p8 p9 p10 p11 p12 p13 s0_ s1_ s2_ s3_ s4_
  have X1 := hide (Ext.trans HX.out e1)
  have rr0 := (B0.out.ext (e1)).cell 0
  have rr1 := (B0.out.ext (e1)).cell 1
  have rr2 := (B0.out.ext (e1)).cell 2
  have p0 := (B1.out.ext (e1)).cell 0
  have p1 := (B1.out.ext (e1)).cell 1
  have p2 := (B1.out.ext (e1)).cell 2
  have p3 := (B1.out.ext (e1)).cell 3
  have p4 := (B1.out.ext (e1)).cell 4
  have p5 := (B1.out.ext (e1)).cell 5
  have p6 := (B1.out.ext (e1)).cell 6
  have p7 := (B1.out.ext (e1)).cell 7
  have p8 := (B1.out.ext (e1)).cell 8
  have p9 := (B1.out.ext (e1)).cell 9
  have p10 := (B1.out.ext (e1)).cell 10
  have p11 := (B1.out.ext (e1)).cell 11
  have p12 := (B1.out.ext (e1)).cell 12
  have p13 := (B1.out.ext (e1)).cell 13
  have s0_ := (B2.out.ext (e1)).cell 0
  have s1_ := (B2.out.ext (e1)).cell 1
  have s2_ := (B2.out.ext (e1)).cell 2
  have s3_ := (B2.out.ext (e1)).cell 3
  have s4_ := (B2.out.ext (e1)).cell 4
  by_cases h0 : long = 0
  · have e0 : (long == 0) = true := by simp [h0]
    have hv : v = (sn : Int) - 1 := by rw [HVV.out, rateC, if_pos h0, HSL.out, HSS.out]
    clear h0
    go_wp2
    go_ret
    exact ⟨ret_int hv.symm, X1.out⟩
  have e0 : (long == 0) = false := by simp [h0]
  go_wp2_with fail
  refine (HMR.out _ X1.out).mono ?_
  rintro e w2 ⟨A1, n1, c1, rfl, a1, e2'⟩
  have c7 : w2.cell? ⟨w.heap.size + 1, 7, none⟩ = some (.int .i64 t0) := e2'.cell p7
  clear rr0 rr1 rr2 p0 p1 p2 p3 p4 p5 p6 p7 p8 p9 p10 p11 p12 p13 s0_ s1_ s2_ s3_ s4_
  have X2 := hide (Ext.trans X1.out e2')
  have hn1 : n1 = S.length := by rw [← a1.len, HSL.out]
  have HN1 := hide hn1
  have hn20 : n1 ≤ 20 := by omega
  have P1 := hide a1
  have HV2 : Hid (v = lastF (fun i => decide ((ratesL L S).getD i 0 * long ≤ bits * t0)) n1) := hide (by rw [HVV.out, rateC, if_neg h0, HSL.out, ← hn1])
  clear a1 hn1 HVV HMR HES e2' e1 h0 hs0 hs1 B0 B1 B2
  generalize ratesL L S = R at *
  generalize hPB : (fun i => decide (R.getD i 0 * long ≤ bits * t0)) = PB at *
  have HB : Hid (∀ i, PB i = decide (R.getD i 0 * long ≤ bits * t0)) := hide (fun i => by rw [← hPB])
  clear hPB
  have hbt1 : 0 ≤ bits * t0 := Int.mul_nonneg hb1 ht.1
  have hbt2 : bits * t0 ≤ 200000000000 * 10000 := Int.mul_le_mul hb3 ht.2 ht.1 (by omega)
  obtain ⟨bt, hbt⟩ : ∃ bt, bt = bits * t0 := ⟨_, rfl⟩
  have wbt : IntKind.i64.wrap (bits * t0) = bt := by rw [hbt, IntKind.wrap_i64]; omega
  rw [← hbt] at hbt1 hbt2
  have HB : Hid (∀ i, PB i = decide (R.getD i 0 * long ≤ bt)) := hide (fun i => by rw [hbt]; exact HB.out i)
  clear hbt
  go_wp2_with fail
  go_loopw [9, 29] (fun ra ri wr => ∃ k : Nat, k ≤ n1 ∧ ri = .int .i64 k ∧ ra = .int .i64 (lastF PB k) ∧ Hid (Ext w2 wr)) (fun _ ri _ => n1 - (intOf ri).toNat)
  case atStart => exact ⟨0, by omega, rfl, rfl, hide (Ext.refl _)⟩
  case round =>
    obtain ⟨k, hk, rfl, rfl, HW⟩ := hrel
    by_cases hlt : k < n1
    · obtain ⟨br, orr, rfl, _⟩ := P1.out.addr (by omega)
      have ck := HW.out.cell (P1.out.num hlt)
      have ct := HW.out.cell c7
      have hRk := HRB.out k (by have := HN1.out; omega)
      have HPK := hide (HB.out k)
      have HLN := hide (lastF_succ PB k)
      generalize lastF PB k = lk at *
      generalize R.getD k 0 = rk at *
      generalize PB k = pk at *
      have i1 : (0 : Int) ≤ (k : Int) := by omega
      have i2 : (k : Int) < (n1 : Int) := by omega
      have HDC : Hid (decide (cmpI ((rk.toNat * long.toNat : Nat) : Int) ((bt.toNat * (1 : Int).toNat : Nat) : Int) ≤ 0) = pk) := hide (by rw [HPK.out, cmp_le (by omega) (by omega) (by omega) (by omega), Int.mul_one])
      have HC := hide (fun (W : World) => compareW_any (a := rk) (b := 1) (c := bt) (d := long) ⟨by omega, by omega⟩ ⟨by omega, by omega⟩ ⟨by omega, by omega⟩ ⟨by omega, by omega⟩ W)
      generalize cmpI ((rk.toNat * long.toNat : Nat) : Int) ((bt.toNat * (1 : Int).toNat : Nat) : Int) = cv at *
      clear HPK HB
      go_wp2_with fail
      refine (HC.out _).mono ?_
      rintro e w5 ⟨rfl, e5⟩
      have X6 := hide (Ext.trans HW.out e5)
      have hdc := HDC.out
      by_cases hq : cv ≤ 0
      · have hnx : lastF PB (k + 1) = (k : Int) := by rw [HLN.out, ← hdc, decide_eq_true hq, if_pos rfl]
        clear hdc HDC HLN ck ct
        go_wp2_with fail
        go_roundw
        case rel => exact ⟨k + 1, by omega, by go_num, by rw [hnx], X6⟩
        case measure => simp [intOf]; omega
      · have hnx : lastF PB (k + 1) = lk := by rw [HLN.out, ← hdc, decide_eq_false hq]; rfl
        clear hdc HDC HLN ck ct
        go_wp2_with fail
        go_roundw
        case rel => exact ⟨k + 1, by omega, by go_num, by rw [hnx], X6⟩
        case measure => simp [intOf]; omega
    · obtain rfl : k = n1 := by omega
      go_wp2
      go_ret
      exact ⟨ret_int HV2.out.symm, Ext.trans X2.out HW.out⟩
end
end Go.Proofs.YtfelgolfebhmkaaDoor
