/- Walks: ReadTable (program, reference). Conditions as stated. -/
import Derived.Test.YtccmbokodifdoaaRtB
import Derived.Test.YtccmbokodifdoaaTabC
import Derived.Test.YtccmbokodifdoaaTabS
namespace Go.Proofs.Ytccmbokodifdoaa
open Go.RowKit
theorem rt_sz {W : World} {b : List UInt8} {sA : Option Addr} {sn sc : Nat} {hA : Option Addr} {hn hc : Nat} {zA : Option Addr} {zn zc : Nat} {kA : Option Addr} {kn kc : Nat} {cA : Option Addr} {cn cc : Nat} {pA : Option Addr} {pn pc : Nat}
    (h : TabAt W sA sn sc hA hn hc zA zn zc kA kn kc cA cn cc pA pn pc (rtT b)) (hb : b.length ≤ 1000000) : TabSz sn hn zn kn cn pn := by
  have hf := r_few b
  have pl : ∀ l : List Int, (prL l).length = l.length / 2 := fun l => prK_len _ _
  have h1 : (prL (r1F b).1).length = sn := h.steps.len
  have h2 : (prL (r2F b).1).length = hn := h.shifts.len
  have h3 : (r3F b).1.length = zn := h.sizes.len
  have h4 : (r5F b).1.length = kn := h.keys.len
  have h5 : (prL (r6F b).1).length = cn := h.chunks.len
  have h6 : (r7F b).1.length = pn := h.places.len
  rw [pl] at h1 h2 h5
  exact ⟨by omega, by omega, by omega, by omega, by omega, by omega⟩
set_option linter.unusedVariables false in
set_option linter.unusedSimpArgs false in
set_option maxRecDepth 100000 in
set_option maxHeartbeats 8000000 in
theorem keyReadTable_any {A : Option Addr} {n c : Nat} {b : List UInt8} {w : World} (h : At w 1 e8 A n c b) :
    Calls Try.prog 30 #[.slice A n c] w (RtGives w (rdTV b) (rtA b) (rdTF b)) := by
  have E0 := hide (Ext.alloc w (.cells #[.int .i64 0, .slice none 0 0, .slice none 0 0, .slice none 0 0, .slice none 0 0, .slice none 0 0, .slice none 0 0] 38))
  have R0 := hide (Blk.new w 38 #[.int .i64 0, .slice none 0 0, .slice none 0 0, .slice none 0 0, .slice none 0 0, .slice none 0 0, .slice none 0 0])
  have hl := h.len
  have HL := hide hl
  have HRT := hide (keyReadTab_any (h.ext E0.out))
  clear h hl
  go_enter Try.func30, Try.ntmps30
  go_wp2_with fail
  with_reducible refine HRT.out.mono ?_
  rintro e w1 ⟨v, rfl, hv, e1⟩
  obtain ⟨t, ht⟩ : ∃ t, t = rtV b := ⟨_, rfl⟩
  rw [← ht] at hv
  obtain ⟨sA, sn, sc, hA, hn, hc, zA, zn, zc, kA, kn, kc, cA, cn, cc, pA, pn, pc, rfl, htab, hlo⟩ := hv
  have HLO := hide hlo
  clear hlo
  have E1 := hide (Ext.trans E0.out e1)
  have R1 := hide (R0.out.ext e1)
  have HTB := hide htab
  have HT := hide ht
  clear e1 htab ht E0 R0 HRT
  go_upto_region 2 with (fail)
  refine gen_wpC fun w2 h2 => ?_
  obtain ⟨gx, hgx⟩ : ∃ gx, gx = w1.heap.size := ⟨_, rfl⟩
  rw [← hgx]
  have EX : Hid (Ext w1 w2) := hide (by rw [h2]; exact Ext.alloc _ _)
  have E2 := hide (Ext.trans E1.out EX.out)
  have R2 := hide (R1.out.ext EX.out)
  have X2 : Hid (Blk w2 gx 38 #[.int .i64 t.start, .slice sA sn sc, .slice hA hn hc, .slice zA zn zc, .slice kA kn kc, .slice cA cn cc, .slice pA pn pc]) := hide (by rw [h2, hgx]; exact Blk.new _ _ _)
  have T2 := hide (HTB.out.ext EX.out)
  have hgl : w.heap.size < gx := by rw [hgx]; exact R1.out.lt
  clear h2 hgx E1 R1 HTB EX
  have z0 := R2.out.frozen 0
  have y0 : w2.cell? ⟨w.heap.size, 0, none⟩ = some (.int .i64 0) := R2.out.cell 0
  have z1 := R2.out.frozen 1
  have y1 : w2.cell? ⟨w.heap.size, 1, none⟩ = some (.slice none 0 0) := R2.out.cell 1
  have z2 := R2.out.frozen 2
  have y2 : w2.cell? ⟨w.heap.size, 2, none⟩ = some (.slice none 0 0) := R2.out.cell 2
  have z3 := R2.out.frozen 3
  have y3 : w2.cell? ⟨w.heap.size, 3, none⟩ = some (.slice none 0 0) := R2.out.cell 3
  have z4 := R2.out.frozen 4
  have y4 : w2.cell? ⟨w.heap.size, 4, none⟩ = some (.slice none 0 0) := R2.out.cell 4
  have z5 := R2.out.frozen 5
  have y5 : w2.cell? ⟨w.heap.size, 5, none⟩ = some (.slice none 0 0) := R2.out.cell 5
  have z6 := R2.out.frozen 6
  have y6 : w2.cell? ⟨w.heap.size, 6, none⟩ = some (.slice none 0 0) := R2.out.cell 6
  have x0 : w2.cell? ⟨gx, 0, none⟩ = some (.int .i64 t.start) := X2.out.cell 0
  have x1 : w2.cell? ⟨gx, 1, none⟩ = some (.slice sA sn sc) := X2.out.cell 1
  have x2 : w2.cell? ⟨gx, 2, none⟩ = some (.slice hA hn hc) := X2.out.cell 2
  have x3 : w2.cell? ⟨gx, 3, none⟩ = some (.slice zA zn zc) := X2.out.cell 3
  have x4 : w2.cell? ⟨gx, 4, none⟩ = some (.slice kA kn kc) := X2.out.cell 4
  have x5 : w2.cell? ⟨gx, 5, none⟩ = some (.slice cA cn cc) := X2.out.cell 5
  have x6 : w2.cell? ⟨gx, 6, none⟩ = some (.slice pA pn pc) := X2.out.cell 6
  by_cases hf : rtF b = 0
  rotate_left
  · have HV : Hid (rdTV b = noTab ∧ rdTF b = rtF b) := hide (by
      have h2 : rdTF b = rtF b := by unfold rdTF; rw [if_pos hf]
      exact ⟨by unfold rdTV; rw [h2, if_neg hf], h2⟩)
    generalize rtF b = f at *
    generalize rtA b = p at *
    have d0 : (f != 0) = true := by simp [hf]
    clear hf
    go_wp2_with fail
    refine gen_bod fun w8 h8 => ?_
    have T8 : Hid (Tw w2 w8 w.heap.size none) := hide (by rw [h8]; have q7 := Tw.set7 w2 w.heap.size (.int .i64 0) (.slice none 0 0) (.slice none 0 0) (.slice none 0 0) (.slice none 0 0) (.slice none 0 0) (.slice none 0 0); exact q7)
    have R8 : Hid (Blk w8 w.heap.size 38 #[.int .i64 0, .slice none 0 0, .slice none 0 0, .slice none 0 0, .slice none 0 0, .slice none 0 0, .slice none 0 0]) := hide (by rw [h8]; have q7 := (((((((R2.out.set_ 0 (.int .i64 0)).set_ 1 (.slice none 0 0)).set_ 2 (.slice none 0 0)).set_ 3 (.slice none 0 0)).set_ 4 (.slice none 0 0)).set_ 5 (.slice none 0 0)).set_ 6 (.slice none 0 0)); exact q7)
    have k0 : w8.cell? ⟨w.heap.size, 0, none⟩ = some (.int .i64 0) := R8.out.cell 0
    have k1 : w8.cell? ⟨w.heap.size, 1, none⟩ = some (.slice none 0 0) := R8.out.cell 1
    have k2 : w8.cell? ⟨w.heap.size, 2, none⟩ = some (.slice none 0 0) := R8.out.cell 2
    have k3 : w8.cell? ⟨w.heap.size, 3, none⟩ = some (.slice none 0 0) := R8.out.cell 3
    have k4 : w8.cell? ⟨w.heap.size, 4, none⟩ = some (.slice none 0 0) := R8.out.cell 4
    have k5 : w8.cell? ⟨w.heap.size, 5, none⟩ = some (.slice none 0 0) := R8.out.cell 5
    have k6 : w8.cell? ⟨w.heap.size, 6, none⟩ = some (.slice none 0 0) := R8.out.cell 6
    refine bodyPost_ret (v := .tuple #[.agg #[.int .i64 0, .slice none 0 0, .slice none 0 0, .slice none 0 0, .slice none 0 0, .slice none 0 0, .slice none 0 0], .int .i64 p, .int .i64 f]) (by simp [results, Try.results30, go_sem, k0, k1, k2, k3, k4, k5, k6]) rfl ?_
    rw [HV.out.1, HV.out.2]
    exact ⟨_, rfl, TbB.none_ _ _, tw_ext' E2.out T8.out (Nat.le_refl _)⟩
  have HA : Hid (rtA b = 0 ∧ b.length ≤ 1000000 ∧ t = rtT b) := hide (by
    unfold rtF at hf
    by_cases h1 : 1000000 < b.length
    · rw [if_pos h1] at hf; omega
    · rw [if_neg h1] at hf
      cases h2 : (rtE b).bad with
      | true => rw [h2, if_pos rfl] at hf; omega
      | false => exact ⟨by unfold rtA; rw [if_neg h1, h2, if_neg (by simp)], by omega, by rw [HT.out]; unfold rtV rtF; rw [if_neg h1, h2]; simp⟩)
  have HCK := hide (checkTable_any T2.out rfl (rt_sz (b := b) (by rw [← HA.out.2.2]; exact T2.out) HA.out.2.1))
  have HDF : Hid (rdTF b = tabF t ∧ (tabF t = 0 → rdTV b = t) ∧ (tabF t ≠ 0 → rdTV b = noTab)) := hide (by
    have h2 : rdTF b = tabF t := by unfold rdTF; rw [if_neg (by omega), HA.out.2.2]
    exact ⟨h2, fun h => by unfold rdTV; rw [h2, if_pos h, HA.out.2.2], fun h => by unfold rdTV; rw [h2, if_neg h]⟩)
  have HDV := hide HDF.out
  rw [hf, HA.out.1]
  clear hf HDF
  generalize tabF t = f at *
  go_wp2_with fail
  with_reducible refine HCK.out.mono ?_
  rintro e w3 ⟨rfl, e3⟩
  have E3 := hide (Ext.trans E2.out e3)
  have R3 := hide (R2.out.ext e3)
  have X3 := hide (X2.out.ext e3)
  have T3 := hide (T2.out.ext e3)
  clear e3 E2 R2 X2 T2 HCK x0 y0 z0 x1 y1 z1 x2 y2 z2 x3 y3 z3 x4 y4 z4 x5 y5 z5 x6 y6 z6
  have z0 := R3.out.frozen 0
  have y0 : w3.cell? ⟨w.heap.size, 0, none⟩ = some (.int .i64 0) := R3.out.cell 0
  have z1 := R3.out.frozen 1
  have y1 : w3.cell? ⟨w.heap.size, 1, none⟩ = some (.slice none 0 0) := R3.out.cell 1
  have z2 := R3.out.frozen 2
  have y2 : w3.cell? ⟨w.heap.size, 2, none⟩ = some (.slice none 0 0) := R3.out.cell 2
  have z3 := R3.out.frozen 3
  have y3 : w3.cell? ⟨w.heap.size, 3, none⟩ = some (.slice none 0 0) := R3.out.cell 3
  have z4 := R3.out.frozen 4
  have y4 : w3.cell? ⟨w.heap.size, 4, none⟩ = some (.slice none 0 0) := R3.out.cell 4
  have z5 := R3.out.frozen 5
  have y5 : w3.cell? ⟨w.heap.size, 5, none⟩ = some (.slice none 0 0) := R3.out.cell 5
  have z6 := R3.out.frozen 6
  have y6 : w3.cell? ⟨w.heap.size, 6, none⟩ = some (.slice none 0 0) := R3.out.cell 6
  have x0 : w3.cell? ⟨gx, 0, none⟩ = some (.int .i64 t.start) := X3.out.cell 0
  have x1 : w3.cell? ⟨gx, 1, none⟩ = some (.slice sA sn sc) := X3.out.cell 1
  have x2 : w3.cell? ⟨gx, 2, none⟩ = some (.slice hA hn hc) := X3.out.cell 2
  have x3 : w3.cell? ⟨gx, 3, none⟩ = some (.slice zA zn zc) := X3.out.cell 3
  have x4 : w3.cell? ⟨gx, 4, none⟩ = some (.slice kA kn kc) := X3.out.cell 4
  have x5 : w3.cell? ⟨gx, 5, none⟩ = some (.slice cA cn cc) := X3.out.cell 5
  have x6 : w3.cell? ⟨gx, 6, none⟩ = some (.slice pA pn pc) := X3.out.cell 6
  by_cases h0 : f = 0
  · subst h0
    go_wp2_with fail
    refine gen_bod fun w8 h8 => ?_
    have T8 : Hid (Tw w3 w8 w.heap.size none) := hide (by rw [h8]; have q7 := Tw.set7 w3 w.heap.size (.int .i64 t.start) (.slice sA sn sc) (.slice hA hn hc) (.slice zA zn zc) (.slice kA kn kc) (.slice cA cn cc) (.slice pA pn pc); exact q7)
    have R8 : Hid (Blk w8 w.heap.size 38 #[.int .i64 t.start, .slice sA sn sc, .slice hA hn hc, .slice zA zn zc, .slice kA kn kc, .slice cA cn cc, .slice pA pn pc]) := hide (by rw [h8]; have q7 := (((((((R3.out.set_ 0 (.int .i64 t.start)).set_ 1 (.slice sA sn sc)).set_ 2 (.slice hA hn hc)).set_ 3 (.slice zA zn zc)).set_ 4 (.slice kA kn kc)).set_ 5 (.slice cA cn cc)).set_ 6 (.slice pA pn pc)); exact q7)
    have k0 : w8.cell? ⟨w.heap.size, 0, none⟩ = some (.int .i64 t.start) := R8.out.cell 0
    have k1 : w8.cell? ⟨w.heap.size, 1, none⟩ = some (.slice sA sn sc) := R8.out.cell 1
    have k2 : w8.cell? ⟨w.heap.size, 2, none⟩ = some (.slice hA hn hc) := R8.out.cell 2
    have k3 : w8.cell? ⟨w.heap.size, 3, none⟩ = some (.slice zA zn zc) := R8.out.cell 3
    have k4 : w8.cell? ⟨w.heap.size, 4, none⟩ = some (.slice kA kn kc) := R8.out.cell 4
    have k5 : w8.cell? ⟨w.heap.size, 5, none⟩ = some (.slice cA cn cc) := R8.out.cell 5
    have k6 : w8.cell? ⟨w.heap.size, 6, none⟩ = some (.slice pA pn pc) := R8.out.cell 6
    refine bodyPost_ret (v := .tuple #[.agg #[.int .i64 t.start, .slice sA sn sc, .slice hA hn hc, .slice zA zn zc, .slice kA kn kc, .slice cA cn cc, .slice pA pn pc], .int .i64 0, .int .i64 0]) (by simp [results, Try.results30, go_sem, k0, k1, k2, k3, k4, k5, k6]) rfl ?_
    rw [HDV.out.2.1 (by first | trivial | rfl), HA.out.1, HDV.out.1]
    have hs : (w.alloc (.cells #[.int .i64 0, .slice none 0 0, .slice none 0 0, .slice none 0 0, .slice none 0 0, .slice none 0 0, .slice none 0 0] 38)).heap.size = w.heap.size + 1 := World.size_alloc _ _
    have hne : ∀ a : Addr, (sA = some a ∨ hA = some a ∨ zA = some a ∨ kA = some a ∨ cA = some a ∨ pA = some a) → a.block ≠ w.heap.size := fun a ha => by have := HLO.out a ha; omega
    refine ⟨_, rfl, ⟨_, _, _, _, _, _, _, _, _, _, _, _, _, _, _, _, _, _, rfl, ⟨T3.out.steps.tw T8.out (fun a ha => ⟨hne a (by simp [ha]), by simp⟩), T3.out.shifts.tw T8.out (fun a ha => ⟨hne a (by simp [ha]), by simp⟩), T3.out.sizes.tw T8.out (fun a ha => ⟨hne a (by simp [ha]), by simp⟩), T3.out.keys.tw T8.out (fun a ha => ⟨hne a (by simp [ha]), by simp⟩), T3.out.nok, T3.out.chunks.tw T8.out (fun a ha => ⟨hne a (by simp [ha]), by simp⟩), T3.out.places.tw T8.out (fun a ha => ⟨hne a (by simp [ha]), by simp⟩)⟩, fun a ha => by have := HLO.out a ha; omega⟩, tw_ext' E3.out T8.out (Nat.le_refl _)⟩
  · have d0 : (f != 0) = true := by simp [h0]
    have HH0 := hide h0
    clear h0
    go_wp2_with fail
    refine gen_bod fun w8 h8 => ?_
    have T8 : Hid (Tw w3 w8 w.heap.size none) := hide (by rw [h8]; have q7 := Tw.set7 w3 w.heap.size (.int .i64 0) (.slice none 0 0) (.slice none 0 0) (.slice none 0 0) (.slice none 0 0) (.slice none 0 0) (.slice none 0 0); exact q7)
    have R8 : Hid (Blk w8 w.heap.size 38 #[.int .i64 0, .slice none 0 0, .slice none 0 0, .slice none 0 0, .slice none 0 0, .slice none 0 0, .slice none 0 0]) := hide (by rw [h8]; have q7 := (((((((R3.out.set_ 0 (.int .i64 0)).set_ 1 (.slice none 0 0)).set_ 2 (.slice none 0 0)).set_ 3 (.slice none 0 0)).set_ 4 (.slice none 0 0)).set_ 5 (.slice none 0 0)).set_ 6 (.slice none 0 0)); exact q7)
    have k0 : w8.cell? ⟨w.heap.size, 0, none⟩ = some (.int .i64 0) := R8.out.cell 0
    have k1 : w8.cell? ⟨w.heap.size, 1, none⟩ = some (.slice none 0 0) := R8.out.cell 1
    have k2 : w8.cell? ⟨w.heap.size, 2, none⟩ = some (.slice none 0 0) := R8.out.cell 2
    have k3 : w8.cell? ⟨w.heap.size, 3, none⟩ = some (.slice none 0 0) := R8.out.cell 3
    have k4 : w8.cell? ⟨w.heap.size, 4, none⟩ = some (.slice none 0 0) := R8.out.cell 4
    have k5 : w8.cell? ⟨w.heap.size, 5, none⟩ = some (.slice none 0 0) := R8.out.cell 5
    have k6 : w8.cell? ⟨w.heap.size, 6, none⟩ = some (.slice none 0 0) := R8.out.cell 6
    refine bodyPost_ret (v := .tuple #[.agg #[.int .i64 0, .slice none 0 0, .slice none 0 0, .slice none 0 0, .slice none 0 0, .slice none 0 0, .slice none 0 0], .int .i64 0, .int .i64 f]) (by simp [results, Try.results30, go_sem, k0, k1, k2, k3, k4, k5, k6]) rfl ?_
    rw [HDV.out.2.2 HH0.out, HA.out.1, HDV.out.1]
    exact ⟨_, rfl, TbB.none_ _ _, tw_ext' E3.out T8.out (Nat.le_refl _)⟩
set_option linter.unusedVariables false in
set_option linter.unusedSimpArgs false in
set_option maxRecDepth 100000 in
set_option maxHeartbeats 8000000 in
theorem refReadTable_any {A : Option Addr} {n c : Nat} {b : List UInt8} {w : World} (h : At w 1 e8 A n c b) :
    Calls Try.prog 31 #[.slice A n c] w (RtGives w (rdTV b) (rtA b) (rdTF b)) := by
  have E0 := hide (Ext.alloc w (.cells #[.int .i64 0, .slice none 0 0, .slice none 0 0, .slice none 0 0, .slice none 0 0, .slice none 0 0, .slice none 0 0] 38))
  have R0 := hide (Blk.new w 38 #[.int .i64 0, .slice none 0 0, .slice none 0 0, .slice none 0 0, .slice none 0 0, .slice none 0 0, .slice none 0 0])
  have hl := h.len
  have HL := hide hl
  have HRT := hide (fun hn => refReadTab_any (h.ext E0.out) hn)
  clear h hl
  by_cases hbig : 1000000 < n
  · have HV : Hid (rdTV b = noTab ∧ rtA b = 0 ∧ rdTF b = 2) := hide (by
      have h9 := HL.out
      have h1 : rtF b = 2 := by unfold rtF; rw [if_pos (by omega)]
      have h2 : rdTF b = 2 := by unfold rdTF; rw [h1, if_pos (by omega)]
      exact ⟨by unfold rdTV; rw [h2, if_neg (by omega)], by unfold rtA; rw [if_pos (by omega)], h2⟩)
    have i0 : (1000000 : Int) < (n : Int) := by omega
    clear hbig
    go_enter Try.func31, Try.ntmps31
    go_upto_region 1 with (fail)
    refine gen_wpC fun w0 h0 => ?_
    have F0 : Hid (Ext w w0) := hide (by rw [h0]; exact E0.out)
    have R1 : Hid (Blk w0 w.heap.size 38 #[.int .i64 0, .slice none 0 0, .slice none 0 0, .slice none 0 0, .slice none 0 0, .slice none 0 0, .slice none 0 0]) := hide (by rw [h0]; exact R0.out)
    clear h0
    have z0 := R1.out.frozen 0
    have y0 : w0.cell? ⟨w.heap.size, 0, none⟩ = some (.int .i64 0) := R1.out.cell 0
    have z1 := R1.out.frozen 1
    have y1 : w0.cell? ⟨w.heap.size, 1, none⟩ = some (.slice none 0 0) := R1.out.cell 1
    have z2 := R1.out.frozen 2
    have y2 : w0.cell? ⟨w.heap.size, 2, none⟩ = some (.slice none 0 0) := R1.out.cell 2
    have z3 := R1.out.frozen 3
    have y3 : w0.cell? ⟨w.heap.size, 3, none⟩ = some (.slice none 0 0) := R1.out.cell 3
    have z4 := R1.out.frozen 4
    have y4 : w0.cell? ⟨w.heap.size, 4, none⟩ = some (.slice none 0 0) := R1.out.cell 4
    have z5 := R1.out.frozen 5
    have y5 : w0.cell? ⟨w.heap.size, 5, none⟩ = some (.slice none 0 0) := R1.out.cell 5
    have z6 := R1.out.frozen 6
    have y6 : w0.cell? ⟨w.heap.size, 6, none⟩ = some (.slice none 0 0) := R1.out.cell 6
    go_wp2_with fail
    refine gen_bod fun w8 h8 => ?_
    have T8 : Hid (Tw w0 w8 w.heap.size none) := hide (by rw [h8]; have q7 := Tw.set7 w0 w.heap.size (.int .i64 0) (.slice none 0 0) (.slice none 0 0) (.slice none 0 0) (.slice none 0 0) (.slice none 0 0) (.slice none 0 0); exact q7)
    have R8 : Hid (Blk w8 w.heap.size 38 #[.int .i64 0, .slice none 0 0, .slice none 0 0, .slice none 0 0, .slice none 0 0, .slice none 0 0, .slice none 0 0]) := hide (by rw [h8]; have q7 := (((((((R1.out.set_ 0 (.int .i64 0)).set_ 1 (.slice none 0 0)).set_ 2 (.slice none 0 0)).set_ 3 (.slice none 0 0)).set_ 4 (.slice none 0 0)).set_ 5 (.slice none 0 0)).set_ 6 (.slice none 0 0)); exact q7)
    have k0 : w8.cell? ⟨w.heap.size, 0, none⟩ = some (.int .i64 0) := R8.out.cell 0
    have k1 : w8.cell? ⟨w.heap.size, 1, none⟩ = some (.slice none 0 0) := R8.out.cell 1
    have k2 : w8.cell? ⟨w.heap.size, 2, none⟩ = some (.slice none 0 0) := R8.out.cell 2
    have k3 : w8.cell? ⟨w.heap.size, 3, none⟩ = some (.slice none 0 0) := R8.out.cell 3
    have k4 : w8.cell? ⟨w.heap.size, 4, none⟩ = some (.slice none 0 0) := R8.out.cell 4
    have k5 : w8.cell? ⟨w.heap.size, 5, none⟩ = some (.slice none 0 0) := R8.out.cell 5
    have k6 : w8.cell? ⟨w.heap.size, 6, none⟩ = some (.slice none 0 0) := R8.out.cell 6
    refine bodyPost_ret (v := .tuple #[.agg #[.int .i64 0, .slice none 0 0, .slice none 0 0, .slice none 0 0, .slice none 0 0, .slice none 0 0, .slice none 0 0], .int .i64 0, .int .i64 2]) (by simp [results, Try.results31, go_sem, k0, k1, k2, k3, k4, k5, k6]) rfl ?_
    rw [HV.out.1, HV.out.2.1, HV.out.2.2]
    exact ⟨_, rfl, TbB.none_ _ _, tw_ext' F0.out T8.out (Nat.le_refl _)⟩
  have i0 : ¬ (1000000 : Int) < (n : Int) := by omega
  have HRT2 := hide (HRT.out (by omega))
  go_enter Try.func31, Try.ntmps31
  go_wp2_with fail
  with_reducible refine HRT2.out.mono ?_
  rintro e w1 ⟨v, rfl, hv, e1⟩
  obtain ⟨t, ht⟩ : ∃ t, t = rtT b := ⟨_, rfl⟩
  rw [← ht] at hv
  obtain ⟨sA, sn, sc, hA, hn, hc, zA, zn, zc, kA, kn, kc, cA, cn, cc, pA, pn, pc, rfl, htab, hlo⟩ := hv
  have HLO := hide hlo
  clear hlo
  have E1 := hide (Ext.trans E0.out e1)
  have R1 := hide (R0.out.ext e1)
  have HTB := hide htab
  have HT := hide ht
  clear e1 htab ht E0 R0 HRT
  go_upto_region 4 with (fail)
  refine gen_wpC fun w2 h2 => ?_
  obtain ⟨gx, hgx⟩ : ∃ gx, gx = w1.heap.size := ⟨_, rfl⟩
  rw [← hgx]
  have EX : Hid (Ext w1 w2) := hide (by rw [h2]; exact Ext.alloc _ _)
  have E2 := hide (Ext.trans E1.out EX.out)
  have R2 := hide (R1.out.ext EX.out)
  have X2 : Hid (Blk w2 gx 38 #[.int .i64 t.start, .slice sA sn sc, .slice hA hn hc, .slice zA zn zc, .slice kA kn kc, .slice cA cn cc, .slice pA pn pc]) := hide (by rw [h2, hgx]; exact Blk.new _ _ _)
  have T2 := hide (HTB.out.ext EX.out)
  have hgl : w.heap.size < gx := by rw [hgx]; exact R1.out.lt
  clear h2 hgx E1 R1 HTB EX
  have z0 := R2.out.frozen 0
  have y0 : w2.cell? ⟨w.heap.size, 0, none⟩ = some (.int .i64 0) := R2.out.cell 0
  have z1 := R2.out.frozen 1
  have y1 : w2.cell? ⟨w.heap.size, 1, none⟩ = some (.slice none 0 0) := R2.out.cell 1
  have z2 := R2.out.frozen 2
  have y2 : w2.cell? ⟨w.heap.size, 2, none⟩ = some (.slice none 0 0) := R2.out.cell 2
  have z3 := R2.out.frozen 3
  have y3 : w2.cell? ⟨w.heap.size, 3, none⟩ = some (.slice none 0 0) := R2.out.cell 3
  have z4 := R2.out.frozen 4
  have y4 : w2.cell? ⟨w.heap.size, 4, none⟩ = some (.slice none 0 0) := R2.out.cell 4
  have z5 := R2.out.frozen 5
  have y5 : w2.cell? ⟨w.heap.size, 5, none⟩ = some (.slice none 0 0) := R2.out.cell 5
  have z6 := R2.out.frozen 6
  have y6 : w2.cell? ⟨w.heap.size, 6, none⟩ = some (.slice none 0 0) := R2.out.cell 6
  have x0 : w2.cell? ⟨gx, 0, none⟩ = some (.int .i64 t.start) := X2.out.cell 0
  have x1 : w2.cell? ⟨gx, 1, none⟩ = some (.slice sA sn sc) := X2.out.cell 1
  have x2 : w2.cell? ⟨gx, 2, none⟩ = some (.slice hA hn hc) := X2.out.cell 2
  have x3 : w2.cell? ⟨gx, 3, none⟩ = some (.slice zA zn zc) := X2.out.cell 3
  have x4 : w2.cell? ⟨gx, 4, none⟩ = some (.slice kA kn kc) := X2.out.cell 4
  have x5 : w2.cell? ⟨gx, 5, none⟩ = some (.slice cA cn cc) := X2.out.cell 5
  have x6 : w2.cell? ⟨gx, 6, none⟩ = some (.slice pA pn pc) := X2.out.cell 6
  obtain ⟨ed, hed⟩ : ∃ ed, ed = rtE b := ⟨_, rfl⟩
  rw [← hed]
  have HED := hide hed
  clear hed
  obtain ⟨ps, bd⟩ := ed
  cases bd with
  | true =>
    have HV : Hid (rdTV b = noTab ∧ rtA b = (ps : Int) ∧ rdTF b = 10) := hide (by
      have h9 := HL.out
      have h1 : rtF b = 10 := by unfold rtF; rw [if_neg (by omega), ← HED.out, if_pos rfl]
      have h2 : rdTF b = 10 := by unfold rdTF; rw [h1, if_pos (by omega)]
      exact ⟨by unfold rdTV; rw [h2, if_neg (by omega)], by unfold rtA; rw [if_neg (by omega), ← HED.out, if_pos rfl], h2⟩)
    rw [show badI ⟨ps, true⟩ = (ps : Int) from rfl]
    have d0 : (0 : Int) ≤ (ps : Int) := by omega
    go_wp2_with fail
    refine gen_bod fun w8 h8 => ?_
    have T8 : Hid (Tw w2 w8 w.heap.size none) := hide (by rw [h8]; have q7 := Tw.set7 w2 w.heap.size (.int .i64 0) (.slice none 0 0) (.slice none 0 0) (.slice none 0 0) (.slice none 0 0) (.slice none 0 0) (.slice none 0 0); exact q7)
    have R8 : Hid (Blk w8 w.heap.size 38 #[.int .i64 0, .slice none 0 0, .slice none 0 0, .slice none 0 0, .slice none 0 0, .slice none 0 0, .slice none 0 0]) := hide (by rw [h8]; have q7 := (((((((R2.out.set_ 0 (.int .i64 0)).set_ 1 (.slice none 0 0)).set_ 2 (.slice none 0 0)).set_ 3 (.slice none 0 0)).set_ 4 (.slice none 0 0)).set_ 5 (.slice none 0 0)).set_ 6 (.slice none 0 0)); exact q7)
    have k0 : w8.cell? ⟨w.heap.size, 0, none⟩ = some (.int .i64 0) := R8.out.cell 0
    have k1 : w8.cell? ⟨w.heap.size, 1, none⟩ = some (.slice none 0 0) := R8.out.cell 1
    have k2 : w8.cell? ⟨w.heap.size, 2, none⟩ = some (.slice none 0 0) := R8.out.cell 2
    have k3 : w8.cell? ⟨w.heap.size, 3, none⟩ = some (.slice none 0 0) := R8.out.cell 3
    have k4 : w8.cell? ⟨w.heap.size, 4, none⟩ = some (.slice none 0 0) := R8.out.cell 4
    have k5 : w8.cell? ⟨w.heap.size, 5, none⟩ = some (.slice none 0 0) := R8.out.cell 5
    have k6 : w8.cell? ⟨w.heap.size, 6, none⟩ = some (.slice none 0 0) := R8.out.cell 6
    refine bodyPost_ret (v := .tuple #[.agg #[.int .i64 0, .slice none 0 0, .slice none 0 0, .slice none 0 0, .slice none 0 0, .slice none 0 0, .slice none 0 0], .int .i64 (ps : Int), .int .i64 10]) (by simp [results, Try.results31, go_sem, k0, k1, k2, k3, k4, k5, k6]) rfl ?_
    rw [HV.out.1, HV.out.2.1, HV.out.2.2]
    exact ⟨_, rfl, TbB.none_ _ _, tw_ext' E2.out T8.out (Nat.le_refl _)⟩
  | false =>
  rw [show badI ⟨ps, false⟩ = -1 from rfl]
  have hf : rtF b = 0 := by have h9 := HL.out; unfold rtF; rw [if_neg (by omega), ← HED.out, if_neg (by simp)]
  have HA : Hid (rtA b = 0 ∧ b.length ≤ 1000000 ∧ t = rtT b) := hide (by
    have h9 := HL.out
    exact ⟨by unfold rtA; rw [if_neg (by omega), ← HED.out, if_neg (by simp)], by omega, HT.out⟩)
  have HCK := hide (refCheckTable_any T2.out rfl (rt_sz (b := b) (by rw [← HA.out.2.2]; exact T2.out) HA.out.2.1))
  have HDF : Hid (rdTF b = tabF t ∧ (tabF t = 0 → rdTV b = t) ∧ (tabF t ≠ 0 → rdTV b = noTab)) := hide (by
    have h2 : rdTF b = tabF t := by unfold rdTF; rw [if_neg (by omega), HA.out.2.2]
    exact ⟨h2, fun h => by unfold rdTV; rw [h2, if_pos h, HA.out.2.2], fun h => by unfold rdTV; rw [h2, if_neg h]⟩)
  have HDV := hide HDF.out
  skip
  clear hf HDF
  generalize tabF t = f at *
  go_wp2_with fail
  with_reducible refine HCK.out.mono ?_
  rintro e w3 ⟨rfl, e3⟩
  have E3 := hide (Ext.trans E2.out e3)
  have R3 := hide (R2.out.ext e3)
  have X3 := hide (X2.out.ext e3)
  have T3 := hide (T2.out.ext e3)
  clear e3 E2 R2 X2 T2 HCK x0 y0 z0 x1 y1 z1 x2 y2 z2 x3 y3 z3 x4 y4 z4 x5 y5 z5 x6 y6 z6
  have z0 := R3.out.frozen 0
  have y0 : w3.cell? ⟨w.heap.size, 0, none⟩ = some (.int .i64 0) := R3.out.cell 0
  have z1 := R3.out.frozen 1
  have y1 : w3.cell? ⟨w.heap.size, 1, none⟩ = some (.slice none 0 0) := R3.out.cell 1
  have z2 := R3.out.frozen 2
  have y2 : w3.cell? ⟨w.heap.size, 2, none⟩ = some (.slice none 0 0) := R3.out.cell 2
  have z3 := R3.out.frozen 3
  have y3 : w3.cell? ⟨w.heap.size, 3, none⟩ = some (.slice none 0 0) := R3.out.cell 3
  have z4 := R3.out.frozen 4
  have y4 : w3.cell? ⟨w.heap.size, 4, none⟩ = some (.slice none 0 0) := R3.out.cell 4
  have z5 := R3.out.frozen 5
  have y5 : w3.cell? ⟨w.heap.size, 5, none⟩ = some (.slice none 0 0) := R3.out.cell 5
  have z6 := R3.out.frozen 6
  have y6 : w3.cell? ⟨w.heap.size, 6, none⟩ = some (.slice none 0 0) := R3.out.cell 6
  have x0 : w3.cell? ⟨gx, 0, none⟩ = some (.int .i64 t.start) := X3.out.cell 0
  have x1 : w3.cell? ⟨gx, 1, none⟩ = some (.slice sA sn sc) := X3.out.cell 1
  have x2 : w3.cell? ⟨gx, 2, none⟩ = some (.slice hA hn hc) := X3.out.cell 2
  have x3 : w3.cell? ⟨gx, 3, none⟩ = some (.slice zA zn zc) := X3.out.cell 3
  have x4 : w3.cell? ⟨gx, 4, none⟩ = some (.slice kA kn kc) := X3.out.cell 4
  have x5 : w3.cell? ⟨gx, 5, none⟩ = some (.slice cA cn cc) := X3.out.cell 5
  have x6 : w3.cell? ⟨gx, 6, none⟩ = some (.slice pA pn pc) := X3.out.cell 6
  by_cases h0 : f = 0
  · subst h0
    go_wp2_with fail
    refine gen_bod fun w8 h8 => ?_
    have T8 : Hid (Tw w3 w8 w.heap.size none) := hide (by rw [h8]; have q7 := Tw.set7 w3 w.heap.size (.int .i64 t.start) (.slice sA sn sc) (.slice hA hn hc) (.slice zA zn zc) (.slice kA kn kc) (.slice cA cn cc) (.slice pA pn pc); exact q7)
    have R8 : Hid (Blk w8 w.heap.size 38 #[.int .i64 t.start, .slice sA sn sc, .slice hA hn hc, .slice zA zn zc, .slice kA kn kc, .slice cA cn cc, .slice pA pn pc]) := hide (by rw [h8]; have q7 := (((((((R3.out.set_ 0 (.int .i64 t.start)).set_ 1 (.slice sA sn sc)).set_ 2 (.slice hA hn hc)).set_ 3 (.slice zA zn zc)).set_ 4 (.slice kA kn kc)).set_ 5 (.slice cA cn cc)).set_ 6 (.slice pA pn pc)); exact q7)
    have k0 : w8.cell? ⟨w.heap.size, 0, none⟩ = some (.int .i64 t.start) := R8.out.cell 0
    have k1 : w8.cell? ⟨w.heap.size, 1, none⟩ = some (.slice sA sn sc) := R8.out.cell 1
    have k2 : w8.cell? ⟨w.heap.size, 2, none⟩ = some (.slice hA hn hc) := R8.out.cell 2
    have k3 : w8.cell? ⟨w.heap.size, 3, none⟩ = some (.slice zA zn zc) := R8.out.cell 3
    have k4 : w8.cell? ⟨w.heap.size, 4, none⟩ = some (.slice kA kn kc) := R8.out.cell 4
    have k5 : w8.cell? ⟨w.heap.size, 5, none⟩ = some (.slice cA cn cc) := R8.out.cell 5
    have k6 : w8.cell? ⟨w.heap.size, 6, none⟩ = some (.slice pA pn pc) := R8.out.cell 6
    refine bodyPost_ret (v := .tuple #[.agg #[.int .i64 t.start, .slice sA sn sc, .slice hA hn hc, .slice zA zn zc, .slice kA kn kc, .slice cA cn cc, .slice pA pn pc], .int .i64 0, .int .i64 0]) (by simp [results, Try.results31, go_sem, k0, k1, k2, k3, k4, k5, k6]) rfl ?_
    rw [HDV.out.2.1 (by first | trivial | rfl), HA.out.1, HDV.out.1]
    have hs : (w.alloc (.cells #[.int .i64 0, .slice none 0 0, .slice none 0 0, .slice none 0 0, .slice none 0 0, .slice none 0 0, .slice none 0 0] 38)).heap.size = w.heap.size + 1 := World.size_alloc _ _
    have hne : ∀ a : Addr, (sA = some a ∨ hA = some a ∨ zA = some a ∨ kA = some a ∨ cA = some a ∨ pA = some a) → a.block ≠ w.heap.size := fun a ha => by have := HLO.out a ha; omega
    refine ⟨_, rfl, ⟨_, _, _, _, _, _, _, _, _, _, _, _, _, _, _, _, _, _, rfl, ⟨T3.out.steps.tw T8.out (fun a ha => ⟨hne a (by simp [ha]), by simp⟩), T3.out.shifts.tw T8.out (fun a ha => ⟨hne a (by simp [ha]), by simp⟩), T3.out.sizes.tw T8.out (fun a ha => ⟨hne a (by simp [ha]), by simp⟩), T3.out.keys.tw T8.out (fun a ha => ⟨hne a (by simp [ha]), by simp⟩), T3.out.nok, T3.out.chunks.tw T8.out (fun a ha => ⟨hne a (by simp [ha]), by simp⟩), T3.out.places.tw T8.out (fun a ha => ⟨hne a (by simp [ha]), by simp⟩)⟩, fun a ha => by have := HLO.out a ha; omega⟩, tw_ext' E3.out T8.out (Nat.le_refl _)⟩
  · have d0 : (f != 0) = true := by simp [h0]
    have HH0 := hide h0
    clear h0
    go_wp2_with fail
    refine gen_bod fun w8 h8 => ?_
    have T8 : Hid (Tw w3 w8 w.heap.size none) := hide (by rw [h8]; have q7 := Tw.set7 w3 w.heap.size (.int .i64 0) (.slice none 0 0) (.slice none 0 0) (.slice none 0 0) (.slice none 0 0) (.slice none 0 0) (.slice none 0 0); exact q7)
    have R8 : Hid (Blk w8 w.heap.size 38 #[.int .i64 0, .slice none 0 0, .slice none 0 0, .slice none 0 0, .slice none 0 0, .slice none 0 0, .slice none 0 0]) := hide (by rw [h8]; have q7 := (((((((R3.out.set_ 0 (.int .i64 0)).set_ 1 (.slice none 0 0)).set_ 2 (.slice none 0 0)).set_ 3 (.slice none 0 0)).set_ 4 (.slice none 0 0)).set_ 5 (.slice none 0 0)).set_ 6 (.slice none 0 0)); exact q7)
    have k0 : w8.cell? ⟨w.heap.size, 0, none⟩ = some (.int .i64 0) := R8.out.cell 0
    have k1 : w8.cell? ⟨w.heap.size, 1, none⟩ = some (.slice none 0 0) := R8.out.cell 1
    have k2 : w8.cell? ⟨w.heap.size, 2, none⟩ = some (.slice none 0 0) := R8.out.cell 2
    have k3 : w8.cell? ⟨w.heap.size, 3, none⟩ = some (.slice none 0 0) := R8.out.cell 3
    have k4 : w8.cell? ⟨w.heap.size, 4, none⟩ = some (.slice none 0 0) := R8.out.cell 4
    have k5 : w8.cell? ⟨w.heap.size, 5, none⟩ = some (.slice none 0 0) := R8.out.cell 5
    have k6 : w8.cell? ⟨w.heap.size, 6, none⟩ = some (.slice none 0 0) := R8.out.cell 6
    refine bodyPost_ret (v := .tuple #[.agg #[.int .i64 0, .slice none 0 0, .slice none 0 0, .slice none 0 0, .slice none 0 0, .slice none 0 0, .slice none 0 0], .int .i64 0, .int .i64 f]) (by simp [results, Try.results31, go_sem, k0, k1, k2, k3, k4, k5, k6]) rfl ?_
    rw [HDV.out.2.2 HH0.out, HA.out.1, HDV.out.1]
    exact ⟨_, rfl, TbB.none_ _ _, tw_ext' E3.out T8.out (Nat.le_refl _)⟩
end Go.Proofs.Ytccmbokodifdoaa
