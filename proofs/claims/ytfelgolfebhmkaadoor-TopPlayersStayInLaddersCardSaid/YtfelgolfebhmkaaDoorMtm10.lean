/- Walk of the law TopPlayersStayInLadders over what its calls give. Conditions as stated. -/
import Derived.Test.YtfelgolfebhmkaaDoorMtm08
import Derived.Test.YtfelgolfebhmkaaDoorMtm09
namespace Go.Proofs.YtfelgolfebhmkaaDoor
open Go.RowKit
theorem Tryd.infoR45 : (Tryd.prog.info? 45).map (fun i => (i.zero, i.size, i.bytes)) = some (some (.agg #[.string ByteArray.empty, .int .i64 0, .int .i64 0, .int .i64 0]), 4, 40) := by kernel_rfl
theorem cat_str (a b : List UInt8) : ((⟨a.toArray⟩ : ByteArray) ++ ⟨b.toArray⟩) = ⟨(a ++ b).toArray⟩ := by
  apply ByteArray.ext
  simp [ByteArray.data_append]
theorem At.newRg (w : World) (x : Rg) (t : TypeId) : At (w.alloc (.cells #[.string ⟨x.name.toArray⟩, .int .i64 x.rate, .int .i64 x.height, .int .i64 x.qual] t)) 4 eRg (some ⟨w.heap.size, 0, none⟩) 1 1 [x] :=
  ⟨rfl, Nat.le_refl _, by unfold maxLen; omega, fun h => (by cases h), fun k z hz => ⟨_, _, rfl, fun j u hu => by
    have hb := Blk.new w t #[.string ⟨x.name.toArray⟩, .int .i64 x.rate, .int .i64 x.height, .int .i64 x.qual]
    match k, hz with
    | 0, hz =>
      simp at hz; subst hz
      have h0 := hb.cell 0
      have h1 := hb.cell 1
      have h2 := hb.cell 2
      have h3 := hb.cell 3
      match j, hu with
      | 0, hu => simp at hu; subst hu; exact h0
      | 1, hu => simp at hu; subst hu; exact h1
      | 2, hu => simp at hu; subst hu; exact h2
      | 3, hu => simp at hu; subst hu; exact h3
      | j + 4, hu => simp at hu
    | k + 1, hz => simp at hz⟩⟩
def RunS (w : World) (ln : Nat) (uf : Int) (G : List Int → Prop) (e : Ending) (w' : World) : Prop :=
  Ext w w' ∧ ∃ (cA : Option Addr) (cn cc : Nat) (aA : Option Addr) (an ac : Nat) (bA : Option Addr) (bn bc : Nat) (x3 : Int) (dA : Option Addr) (dn dc : Nat) (x5 : Int) (C : List Int),
    e = .returned (.tuple #[.agg #[.slice cA cn cc, .slice aA an ac, .slice bA bn bc, .int .i64 x3, .slice dA dn dc, .int .i64 x5], .int .i64 uf]) ∧ At w' 1 e64 cA cn cc C ∧ (uf ≠ 0 → cn = 0) ∧ (uf = 0 → cn = ln ∧ G C)
set_option linter.unusedVariables false in
set_option linter.unusedSimpArgs false in
set_option maxRecDepth 100000 in
set_option maxHeartbeats 16000000 in
theorem stay_of {lA : Option Addr} {ln lc : Nat} {sA : Option Addr} {sn sc : Nat} {qA : Option Addr} {qn qc : Nat} {d0 s0 r0 f0 i0 k0 l0 t0 lo0 hi0 a0 x0 y0 z0 rate ff uf : Int} {R Q : List Int} {G : List Int → Prop} {w : World}
    (hq : At w 1 e64 qA qn qc Q) (htab : TabW w)
    (hM : ∀ W, Ext w W → Calls Tryd.prog 4 #[.agg #[.slice lA ln lc, .slice sA sn sc, .slice qA qn qc]] W fun e w' => ∃ A k c, e = .returned (.tuple #[.slice A k c, .int .i64 ff]) ∧ At w' 1 e64 A k c R ∧ Ext W w')
    (hR : ∀ (W : World) (T : Option Addr) (c : Nat), Ext w W → At W 2 e2 T 1 c [(0, rate)] → Calls Tryd.prog 5 #[.agg #[.slice lA ln lc, .slice sA sn sc, .slice qA qn qc], .slice T 1 c, .agg #[.int .i64 d0, .int .i64 s0, .int .i64 r0, .int .i64 f0, .int .i64 i0, .int .i64 k0, .int .i64 l0, .int .i64 t0, .int .i64 lo0, .int .i64 hi0, .int .i64 a0, .int .i64 x0, .int .i64 y0, .int .i64 z0]] W (RunS W ln uf G))
    (hf : uf = 0 → ff = 0)
    (hrate : uf = 0 → 1 ≤ rate ∧ rate ≤ 1000000) (hn : uf = 0 → R.length ≤ 20 ∧ Q.length = R.length) (hup : uf = 0 → ∀ k, k + 1 < R.length → R.getD k 0 ≤ R.getD (k + 1) 0) (hql : uf = 0 → ∀ k, k < R.length → 0 ≤ Q.getD k 0 ∧ Q.getD k 0 ≤ 1000000)
    (hG : uf = 0 → k0 = 2 → t0 ≤ 1000 → ∀ C, G C → ∀ i, 0 < i → i < ln → 0 ≤ C.getD i 0 ∧ C.getD i 0 < (R.length : Int) ∧ (0 < C.getD i 0 → R.getD (C.getD i 0).toNat 0 ≤ 1000 * rate))
    (hC : ∀ W, Calls Tryd.prog 6 #[] W fun e w' => e = .returned (.bool true) ∧ Ext W w') :
    Calls Tryd.prog 3 #[.agg #[.slice lA ln lc, .slice sA sn sc, .slice qA qn qc], .agg #[.int .i64 d0, .int .i64 s0, .int .i64 r0, .int .i64 f0, .int .i64 i0, .int .i64 k0, .int .i64 l0, .int .i64 t0, .int .i64 lo0, .int .i64 hi0, .int .i64 a0, .int .i64 x0, .int .i64 y0, .int .i64 z0], .int .i64 rate] w fun e w' => e = .returned (.bool true) ∧ Ext w w' := by
  obtain ⟨i0_, hI0, hZ0, hZ1, hZ2⟩ := info_parts Tryd.infoR45
  have HM := hide hM
  have HR := hide hR
  have HC := hide hC
  have HQ := hide hq
  have HT := hide htab
  have HGG := hide hG
  have HF := hide hf
  have HRT := hide hrate
  have HN := hide hn
  have HUP := hide hup
  have HQL := hide hql
  have E0 := hide (Ext.trans (Ext.trans (Ext.alloc w (.cells #[.slice lA ln lc, .slice sA sn sc, .slice qA qn qc] 25)) (Ext.alloc _ (.cells #[.int .i64 d0, .int .i64 s0, .int .i64 r0, .int .i64 f0, .int .i64 i0, .int .i64 k0, .int .i64 l0, .int .i64 t0, .int .i64 lo0, .int .i64 hi0, .int .i64 a0, .int .i64 x0, .int .i64 y0, .int .i64 z0] 29))) (Ext.alloc _ (.cells #[.int .i64 0, .int .i64 rate] 31)))
  have XF := hide (((Blk.new w 25 #[.slice lA ln lc, .slice sA sn sc, .slice qA qn qc]).alloc (.cells #[.int .i64 d0, .int .i64 s0, .int .i64 r0, .int .i64 f0, .int .i64 i0, .int .i64 k0, .int .i64 l0, .int .i64 t0, .int .i64 lo0, .int .i64 hi0, .int .i64 a0, .int .i64 x0, .int .i64 y0, .int .i64 z0] 29)).alloc (.cells #[.int .i64 0, .int .i64 rate] 31))
  have XP := hide ((Blk.new (w.alloc (.cells #[.slice lA ln lc, .slice sA sn sc, .slice qA qn qc] 25)) 29 #[.int .i64 d0, .int .i64 s0, .int .i64 r0, .int .i64 f0, .int .i64 i0, .int .i64 k0, .int .i64 l0, .int .i64 t0, .int .i64 lo0, .int .i64 hi0, .int .i64 a0, .int .i64 x0, .int .i64 y0, .int .i64 z0]).alloc (.cells #[.int .i64 0, .int .i64 rate] 31))
  have XT := hide (At.pair1 ((w.alloc (.cells #[.slice lA ln lc, .slice sA sn sc, .slice qA qn qc] 25)).alloc (.cells #[.int .i64 d0, .int .i64 s0, .int .i64 r0, .int .i64 f0, .int .i64 i0, .int .i64 k0, .int .i64 l0, .int .i64 t0, .int .i64 lo0, .int .i64 hi0, .int .i64 a0, .int .i64 x0, .int .i64 y0, .int .i64 z0] 29)) 0 rate 31)
  clear hq htab hM hR hf hrate hn hup hql hG hC
  go_enter Tryd.func3, Tryd.ntmps3
  go_upto_region 2 with (fail)
  refine gen_wpC fun w0 h0 => ?_
  rw [← h0] at E0 XF XP XT
  rw [World.size_alloc] at XP
  rw [World.size_alloc, World.size_alloc] at XT
  obtain ⟨f1, hf1⟩ : ∃ f1, f1 = w.heap.size := ⟨_, rfl⟩
  obtain ⟨f2, hf2⟩ : ∃ f2, f2 = w.heap.size + 1 := ⟨_, rfl⟩
  obtain ⟨f3, hf3⟩ : ∃ f3, f3 = w.heap.size + 1 + 1 := ⟨_, rfl⟩
  rw [← hf3] at XT
  rw [← hf2] at XP
  rw [← hf1] at XF
  first | rw [← hf3, ← hf2, ← hf1] | (simp only [World.size_alloc]; rw [← hf3, ← hf2, ← hf1])
  clear h0 hf1 hf2 hf3
  have c0 : w0.cell? ⟨f1, 0, none⟩ = some (.slice lA ln lc) := XF.out.cell 0
  have c1 : w0.cell? ⟨f1, 1, none⟩ = some (.slice sA sn sc) := XF.out.cell 1
  have c2 : w0.cell? ⟨f1, 2, none⟩ = some (.slice qA qn qc) := XF.out.cell 2
  go_wp2_with fail
  with_reducible refine (HM.out _ E0.out).mono ?_
  rintro e w1 ⟨mA, mn, mc, rfl, ma, e1⟩
  have E1 := hide (Ext.trans E0.out e1)
  have XF1 := hide (XF.out.ext e1)
  have XP1 := hide (XP.out.ext e1)
  have XT1 := hide (XT.out.ext e1)
  have MA1 := hide ma
  clear c0 c1 c2 ma e1 XF XP XT E0 HM
  have c0 : w1.cell? ⟨f1, 0, none⟩ = some (.slice lA ln lc) := XF1.out.cell 0
  have c1 : w1.cell? ⟨f1, 1, none⟩ = some (.slice sA sn sc) := XF1.out.cell 1
  have c2 : w1.cell? ⟨f1, 2, none⟩ = some (.slice qA qn qc) := XF1.out.cell 2
  have p0 : w1.cell? ⟨f2, 0, none⟩ = some (.int .i64 d0) := XP1.out.cell 0
  have p1 : w1.cell? ⟨f2, 1, none⟩ = some (.int .i64 s0) := XP1.out.cell 1
  have p2 : w1.cell? ⟨f2, 2, none⟩ = some (.int .i64 r0) := XP1.out.cell 2
  have p3 : w1.cell? ⟨f2, 3, none⟩ = some (.int .i64 f0) := XP1.out.cell 3
  have p4 : w1.cell? ⟨f2, 4, none⟩ = some (.int .i64 i0) := XP1.out.cell 4
  have p5 : w1.cell? ⟨f2, 5, none⟩ = some (.int .i64 k0) := XP1.out.cell 5
  have p6 : w1.cell? ⟨f2, 6, none⟩ = some (.int .i64 l0) := XP1.out.cell 6
  have p7 : w1.cell? ⟨f2, 7, none⟩ = some (.int .i64 t0) := XP1.out.cell 7
  have p8 : w1.cell? ⟨f2, 8, none⟩ = some (.int .i64 lo0) := XP1.out.cell 8
  have p9 : w1.cell? ⟨f2, 9, none⟩ = some (.int .i64 hi0) := XP1.out.cell 9
  have p10 : w1.cell? ⟨f2, 10, none⟩ = some (.int .i64 a0) := XP1.out.cell 10
  have p11 : w1.cell? ⟨f2, 11, none⟩ = some (.int .i64 x0) := XP1.out.cell 11
  have p12 : w1.cell? ⟨f2, 12, none⟩ = some (.int .i64 y0) := XP1.out.cell 12
  have p13 : w1.cell? ⟨f2, 13, none⟩ = some (.int .i64 z0) := XP1.out.cell 13
  go_wp2_with fail
  with_reducible refine (HR.out _ _ _ E1.out XT1.out).mono ?_
  rintro e w2 ⟨e2, cA, cn, cc, aA, an, ac, bA, bn, bc, x3, dA, dn, dc, x5, C, rfl, hca, hcu, hcg⟩
  have E2 := hide (Ext.trans E1.out e2)
  have XF2 := hide (XF1.out.ext e2)
  have XP2 := hide (XP1.out.ext e2)
  have MA2 := hide (MA1.out.ext e2)
  have CA2 := hide hca
  have HCU := hide hcu
  have HCG := hide hcg
  clear c0 c1 c2 p0 p1 p2 p3 p4 p5 p6 p7 p8 p9 p10 p11 p12 p13 hca hcu hcg e2 XF1 XP1 XT1 MA1 E1 HR
  go_upto_region 4 with (fail)
  refine gen_wpC fun w3 h3 => ?_
  obtain ⟨f4, hf4⟩ : ∃ g, g = w2.heap.size := ⟨_, rfl⟩
  rw [← hf4]
  have EY : Hid (Ext w2 w3) := hide (by rw [h3]; exact Ext.alloc _ _)
  have S3 : Hid (Blk w3 f4 38 #[.slice cA cn cc, .slice aA an ac, .slice bA bn bc, .int .i64 x3, .slice dA dn dc, .int .i64 x5]) := hide (by rw [h3, hf4]; exact Blk.new _ _ _)
  have E3 := hide (Ext.trans E2.out EY.out)
  have XF3 := hide (XF2.out.ext EY.out)
  have XP3 := hide (XP2.out.ext EY.out)
  have MA3 := hide (MA2.out.ext EY.out)
  have CA3 := hide (CA2.out.ext EY.out)
  have k5 : w3.cell? ⟨f2, 5, none⟩ = some (.int .i64 k0) := XP3.out.cell 5
  have k7 : w3.cell? ⟨f2, 7, none⟩ = some (.int .i64 t0) := XP3.out.cell 7
  have sy0 : w3.cell? ⟨f4, 0, none⟩ = some (.slice cA cn cc) := S3.out.cell 0
  clear h3 hf4 EY E2 XF2 XP2 MA2 CA2
  by_cases hu : uf = 0
  rotate_left
  · have hcn := HCU.out hu
    subst hcn
    have b0 : (uf == 0) = false := by simpa using hu
    by_cases hff : ff = 0
    · subst hff
      go_wp2_with fail
      with_reducible refine (HC.out _).mono ?_
      rintro e w7 ⟨rfl, e7⟩
      have E7 := hide (Ext.trans E3.out e7)
      clear e7
      go_wp2_with fail
      go_ret
      exact ⟨rfl, E7.out⟩
    · have b1 : (ff == 0) = false := by simpa using hff
      go_wp2_with fail
      with_reducible refine (HC.out _).mono ?_
      rintro e w7 ⟨rfl, e7⟩
      have E7 := hide (Ext.trans E3.out e7)
      clear e7
      go_wp2_with fail
      go_ret
      exact ⟨rfl, E7.out⟩
  have hff := HF.out hu
  subst hu
  subst hff
  obtain ⟨hcn, hgc⟩ := HCG.out rfl
  subst hcn
  have HGC := hide hgc
  have HRT2 := hide (HRT.out rfl)
  have HN2 := hide (HN.out rfl)
  have HUP2 := hide (HUP.out rfl)
  have HQL2 := hide (HQL.out rfl)
  clear hgc HCG HCU HF HRT HN HUP HQL
  by_cases hk : k0 = 2
  rotate_left
  · have b1 : (k0 == 2) = false := by simpa using hk
    go_wp2_with fail
    with_reducible refine (HC.out _).mono ?_
    rintro e w7 ⟨rfl, e7⟩
    have E7 := hide (Ext.trans E3.out e7)
    clear e7
    go_wp2_with fail
    go_ret
    exact ⟨rfl, E7.out⟩
  subst hk
  by_cases ht : t0 ≤ 1000
  rotate_left
  · have b1 : decide (1000 < t0) = true := decide_eq_true (by omega)
    go_wp2_with fail
    with_reducible refine (HC.out _).mono ?_
    rintro e w7 ⟨rfl, e7⟩
    have E7 := hide (Ext.trans E3.out e7)
    clear e7
    go_wp2_with fail
    go_ret
    exact ⟨rfl, E7.out⟩
  have b1 : decide (1000 < t0) = false := decide_eq_false (by omega)
  have HG2 := hide (HGG.out rfl rfl ht C HGC.out)
  have hmn := MA3.out.len
  have hm20 := HN2.out.1
  clear HGG HGC
  have b2 : ¬ 1000 < t0 := by omega
  clear sy0 k5 k7
  have k5 : w3.cell? ⟨f2, 5, none⟩ = some (.int .i64 2) := XP3.out.cell 5
  have k7 : w3.cell? ⟨f2, 7, none⟩ = some (.int .i64 t0) := XP3.out.cell 7
  go_wp2_with fail
  go_loopw [12, 13] (fun rv ri wr => ∃ k : Nat, k ≤ mn ∧ ri = .int .i64 k ∧ Hid (Own wr w3.heap.size 45 4 eRg rv (rgL R Q k)) ∧ Hid (Ext w3 wr) ∧ Hid (∀ j, j < k → 1 ≤ R.getD j 0 ∧ R.getD j 0 ≤ 1000000000)) (fun rv ri _ => mn - (intOf ri).toNat)
  case atStart => exact ⟨0, by omega, rfl, hide (Own.nil _ _ _ _ _), hide (Ext.refl _), hide (fun _ hj => absurd hj (Nat.not_lt_zero _))⟩
  case round =>
    obtain ⟨k, hk, rfl, HO, HX, HA⟩ := hrel
    have EW := hide (Ext.trans E3.out HX.out)
    by_cases hlt : k < mn
    · have hma := MA3.out.ext HX.out
      obtain ⟨mb, mo, rfl, _⟩ := hma.addr (by omega)
      have hqq := HQ.out.ext EW.out
      have hqn := HQ.out.len
      obtain ⟨qb, qo, rfl, _⟩ := hqq.addr (by have := HN2.out.2; omega)
      have m0 := hma.num hlt
      have m3 := MA3.out.num hlt
      have q0 := hqq.num (k := k) (by have := HN2.out.2; omega)
      have q3 := (HQ.out.ext E3.out).num (k := k) (by have := HN2.out.2; omega)
      have c3 : w3.cell? ⟨f1, 2, none⟩ = some (.slice (some ⟨qb, qo, none⟩) qn qc) := XF3.out.cell 2
      have c2 : wr.cell? ⟨f1, 2, none⟩ = some (.slice (some ⟨qb, qo, none⟩) qn qc) := (XF3.out.ext HX.out).cell 2
      obtain ⟨rr, hrr⟩ : ∃ r, R.getD k 0 = r := ⟨_, rfl⟩
      obtain ⟨qq, hqk⟩ : ∃ r, Q.getD k 0 = r := ⟨_, rfl⟩
      rw [hrr] at m0 m3
      rw [hqk] at q0 q3
      have HM3 := hide m3
      have HQ3 := hide q3
      have HC3 := hide c3
      have HRR := hide hrr
      have HQK := hide hqk
      have i1 : (k : Int) < (mn : Int) := by omega
      have i2 : (k : Int) < (qn : Int) := by have := HN2.out.2; omega
      have i9 : (0 : Int) ≤ (k : Int) := by omega
      have i8 : IntKind.i64.wrap ((k : Int) + 1) = (k : Int) + 1 := by rw [IntKind.wrap_i64]; omega
      have i7 : IntKind.i64.wrap (100 + (k : Int)) = 100 + (k : Int) := by rw [IntKind.wrap_i64]; omega
      clear hma hqq hqn hrr hqk m3 q3 c3
      by_cases h1 : rr < 1
      · have b3 : decide (rr < 1) = true := decide_eq_true h1
        go_wp2_with fail
        with_reducible refine (HC.out _).mono ?_
        rintro e w7 ⟨rfl, e7⟩
        have E7 := hide (Ext.trans EW.out e7)
        clear e7
        go_wp2_with fail
        go_ret
        exact ⟨rfl, E7.out⟩
      by_cases h2 : 1000000000 < rr
      · have b3 : decide (rr < 1) = false := decide_eq_false h1
        have b4 : decide (1000000000 < rr) = true := decide_eq_true h2
        go_wp2_with fail
        with_reducible refine (HC.out _).mono ?_
        rintro e w7 ⟨rfl, e7⟩
        have E7 := hide (Ext.trans EW.out e7)
        clear e7
        go_wp2_with fail
        go_ret
        exact ⟨rfl, E7.out⟩
      have b3 : decide (rr < 1) = false := decide_eq_false h1
      have b4 : decide (1000000000 < rr) = false := decide_eq_false h2
      go_upto_region 12 with (fail)
      have S1 : Hid ((rgL R Q k).length + 1 ≤ maxLen) := hide (by rw [rgL_len]; unfold maxLen; omega)
      have S2 : Hid (((rgL R Q k).length + 1) * 40 ≤ 140737488355328) := hide (by rw [rgL_len]; omega)
      have HNM : Hid (nmK k = 114 :: Lib.itoa (100 + (k : Int))) := hide rfl
      have hk100 : (100 + (k : Int)) ≤ 9223372036854775807 := by omega
      have HIT := hide (fun (W : World) (hW : Ext w W) => itoa_any (n := 100 + (k : Int)) (by omega) hk100 (HT.out.ext hW))
      have hnb : ¬ 9223372036854775807 < 1 + (Lib.itoa (100 + (k : Int))).length := by
        have h3 : (nmK k).length ≤ 40 := (nm_ok k (by omega)).2
        rw [HNM.out, List.length_cons] at h3
        omega
      generalize Lib.itoa (100 + (k : Int)) = nb at *
      have HN1 : Hid (∀ W : World, At (W.alloc (.cells #[.string ((⟨#[114]⟩ : ByteArray) ++ ⟨nb.toArray⟩), .int .i64 rr, .int .i64 1, .int .i64 qq] 45)) 4 eRg (some ⟨W.heap.size, 0, none⟩) 1 1 [rgK R Q k]) := hide (fun W => by
        have e1 : ((⟨#[114]⟩ : ByteArray) ++ ⟨nb.toArray⟩) = ⟨(nmK k).toArray⟩ := by rw [HNM.out]; exact cat_str [114] nb
        rw [e1]
        have e2 : rgK R Q k = ⟨nmK k, rr, 1, qq⟩ := by unfold rgK; rw [HRR.out, HQK.out]
        rw [e2]
        exact At.newRg W ⟨nmK k, rr, 1, qq⟩ _)
      have EX := Ext.drew wr
      go_region_held3 (fun W => W.cell? ⟨mb, mo + k, none⟩ = some (.int .i64 rr) ∧ W.cell? ⟨qb, qo + k, none⟩ = some (.int .i64 qq) ∧ W.cell? ⟨f1, 2, none⟩ = some (.slice (some ⟨qb, qo, none⟩) qn qc)) (first | go_keep | exact ⟨EX.cell m0, EX.cell q0, EX.cell c2⟩ | exact ⟨(Ext.trans EX (Ext.alloc _ _)).cell m0, (Ext.trans EX (Ext.alloc _ _)).cell q0, (Ext.trans EX (Ext.alloc _ _)).cell c2⟩ | exact ⟨E7.cell HM3.out, E7.cell HQ3.out, E7.cell HC3.out⟩) (first
        | ((go_at_call 7; (with_reducible refine (HIT.out _ (Ext.trans EW.out EX)).mono ?_); rintro e wi ⟨rfl, ei⟩; have EX := Ext.trans EX ei))
        | ((refine step_append_at rfl (.tmp 79) (.tmp 94) 42 rfl w3.heap.size 45 i0_ _ 40 Tryd.underlying42 hI0 hZ0 hZ1 hZ2 rfl (by omega) len_eRg one_eRg _ _ (by simp [Act.eval]) (HO.out.ext (Ext.trans EX (Ext.alloc _ _))) (some ⟨wi.heap.size, 0, none⟩) 1 1 [rgK R Q k] (by simp [Act.eval]) (HN1.out _) S1.out S2.out (Ext.trans HX.out (Ext.trans EX (Ext.alloc _ _))).size ?_); intro v7 w7 o7 g7 _ _; have O7 := hide o7; have E7 : Ext w3 w7 := Own.below (HO.out.ext (Ext.trans EX (Ext.alloc _ _))) (Ext.trans HX.out (Ext.trans EX (Ext.alloc _ _))) g7 (Nat.le_refl _); clear o7 g7))
      have HA2 : Hid (∀ j, j < k + 1 → 1 ≤ R.getD j 0 ∧ R.getD j 0 ≤ 1000000000) := hide (fun j hj => by
        by_cases hjk : j = k
        · rw [hjk, HRR.out]; omega
        · exact HA.out j (by omega))
      have O8 : Hid (Own w7 w3.heap.size 45 4 eRg v7 (rgL R Q (k + 1))) := hide (by rw [rgL_succ]; exact O7.out)
      have E8 := hide E7
      clear E7 O7 EX
      go_wp2_with fail
      exact ⟨⟨k + 1, by omega, by go_num, O8, E8, HA2⟩, by simp [intOf]; omega⟩
    · obtain rfl : k = mn := by omega
      have i9 : ¬ (k : Int) < (k : Int) := by omega
      have HOK : Hid (RgOk (rgL R Q k) k) := hide (rgL_ok (by omega) HA.out (by rw [hmn] at HQL2; exact HQL2.out) (by rw [hmn] at HUP2; exact HUP2.out))
      have HRL : Hid ((rgL R Q k).map (·.rate) = R) := hide (rgL_rate hmn)
      have HQQ : Hid ((rgL R Q k).map (·.qual) = Q) := hide (rgL_qual (by have := HN2.out.2; omega))
      have hown := HO.out
      obtain ⟨gA, gc, hv, hat⟩ := hown.at_ len_eRg
      rw [rgL_len] at hv hat
      subst hv
      have HAT := hide hat
      have hv0 : 0 ≤ min 1000000000 (1000 * rate) ∧ min 1000000000 (1000 * rate) ≤ 1000000000 := by have := HRT2.out; omega
      have HTK := hide (keyTakes_any (vr := min 1000000000 (1000 * rate)) hat HOK.out hv0)
      rw [HRL.out, HQQ.out] at HTK
      have HBD := hide (tkF_bd R Q (min 1000000000 (1000 * rate)) k)
      have HBS := hide (fun j hj hr => tkF_best R Q (min 1000000000 (1000 * rate)) k j hj hr)
      have hvr : min 1000000000 (1000 * rate) = min 1000000000 (1000 * rate) := rfl
      generalize tkF R Q (min 1000000000 (1000 * rate)) k = tk at *
      clear hat hown
      have i6 : IntKind.i64.wrap (1000 * rate) = 1000 * rate := by rw [IntKind.wrap_i64]; have := HRT2.out; omega
      clear hvr
      have HR1 := hide (fun j (hj : j < k) => HA.out j hj)
      obtain ⟨kk, hkk⟩ : ∃ q, (if tk < 0 then 0 else tk) = q := ⟨_, rfl⟩
      obtain ⟨is, his⟩ : ∃ q, decide (0 ≤ tk) = q := ⟨_, rfl⟩
      rw [hkk, his] at HTK
      have HKK := hide hkk
      have HIS := hide his
      clear hkk his
      have HOW := hide HO
      clear HO HA
      go_wp2_with fail
      refine HTK.out.mono ?_
      rintro e w8 ⟨rfl, e8⟩
      have E8 : Hid (Ext w w8) := hide (Ext.trans (Ext.trans E3.out HX.out) e8)
      have XF8 := hide (XF3.out.ext (Ext.trans HX.out e8))
      have S8 := hide (S3.out.ext (Ext.trans HX.out e8))
      have CA8 := hide (CA3.out.ext (Ext.trans HX.out e8))
      have y8 : w8.cell? ⟨f4, 0, none⟩ = some (.slice cA cn cc) := S8.out.cell 0
      have l8 : w8.cell? ⟨f1, 0, none⟩ = some (.slice lA cn lc) := XF8.out.cell 0
      clear e8 HTK
      go_wp2_with fail
      clear y8 l8
      go_loopw [16] (fun ri wi => ∃ q : Nat, 1 ≤ q ∧ q ≤ max cn 1 ∧ ri = .int .i64 q ∧ Hid (Ext w8 wi)) (fun ri _ => cn - (intOf ri).toNat)
      case atStart => exact ⟨1, by omega, by omega, rfl, hide (Ext.refl _)⟩
      case round =>
        obtain ⟨q, hq1, hq2, rfl, HY⟩ := hrel
        have HEY := hide (Ext.trans E8.out HY.out)
        have y8 : wr.cell? ⟨f4, 0, none⟩ = some (.slice cA cn cc) := (S8.out.ext HY.out).cell 0
        by_cases hlt : q < cn
        · have hca := CA8.out.ext HY.out
          obtain ⟨cb, co, rfl, _⟩ := hca.addr (by omega)
          have a0 := hca.num hlt
          obtain ⟨g1, g2, g3⟩ := HG2.out q (by omega) hlt
          obtain ⟨ci, hci⟩ : ∃ x, C.getD q 0 = x := ⟨_, rfl⟩
          rw [hci] at a0 g1 g2 g3
          obtain ⟨cN, rfl⟩ : ∃ x : Nat, ci = (x : Int) := ⟨ci.toNat, by omega⟩
          rw [Int.toNat_natCast] at g3
          have i1 : (q : Int) < (cn : Int) := by omega
          have i9 : (0 : Int) ≤ (q : Int) := by omega
          have i8 : IntKind.i64.wrap ((q : Int) + 1) = (q : Int) + 1 := by rw [IntKind.wrap_i64]; have := CA8.out.bound; omega
          have n2 : decide (k ≤ cN) = false := decide_eq_false (by omega)
          have n3 : ¬ k ≤ cN := by omega
          have n4 : cN < k := by omega
          have d1 : decide ((cN : Int) < 0) = false := decide_eq_false (by omega)
          have d2 : decide ((k : Int) ≤ (cN : Int)) = false := decide_eq_false (by omega)
          clear hca hci
          by_cases hc0 : 0 < cN
          · have d3 : decide ((0 : Int) < (cN : Int)) = true := decide_eq_true (by omega)
            have n5 : decide (0 < cN) = true := decide_eq_true hc0
            have hrc := g3 (by omega)
            have hr1 := HR1.out cN (by omega)
            obtain ⟨t1, t2⟩ := HBS.out cN (by omega) (by omega)
            have hbd := HBD.out
            have hq2 := HN2.out.2
            have hkk := HKK.out
            rw [if_neg (by omega)] at hkk
            have his := HIS.out
            rw [decide_eq_true t1] at his
            obtain ⟨kN, hkN⟩ : ∃ x : Nat, tk = (x : Int) := ⟨tk.toNat, by omega⟩
            rw [hkN] at hkk t1 t2 hbd
            rw [Int.toNat_natCast] at t2
            subst hkk
            subst his
            have hqq := HQ.out.ext HEY.out
            obtain ⟨qb, qo, rfl, _⟩ := hqq.addr (by have := HQ.out.len; omega)
            have qc0 := hqq.num (k := cN) (by have := HQ.out.len; omega)
            have qk0 := hqq.num (k := kN) (by have := HQ.out.len; omega)
            have c2 : wr.cell? ⟨f1, 2, none⟩ = some (.slice (some ⟨qb, qo, none⟩) qn qc) := (XF8.out.ext HY.out).cell 2
            have j1 : (cN : Int) < (qn : Int) := by have := HQ.out.len; omega
            have j2 : (kN : Int) < (qn : Int) := by have := HQ.out.len; omega
            have j3 : (0 : Int) ≤ (cN : Int) := by omega
            have j4 : (0 : Int) ≤ (kN : Int) := by omega
            have d4 : decide (Q.getD kN 0 < Q.getD cN 0) = false := decide_eq_false (by omega)
            generalize Q.getD kN 0 = qk at *
            generalize Q.getD cN 0 = qcv at *
            clear hqq g3 t2
            go_upto_region 20 with (fail)
            go_quiet (fail)
            go_wp2_with fail
            go_roundw
            case rel => exact ⟨q + 1, by omega, by omega, by go_num, hide (below_drewN HY.out _)⟩
            case measure => simp [intOf]; omega
          · obtain rfl : cN = 0 := by omega
            have m1 : decide ((k : Int) ≤ 0) = false := decide_eq_false (by omega)
            have m2 : ¬ (k : Int) ≤ 0 := by omega
            have m3 : decide (k = 0) = false := decide_eq_false (by omega)
            have m4 : ¬ k = 0 := by omega
            clear g3
            go_upto_region 20 with (fail)
            go_quiet (fail)
            go_wp2_with fail
            go_roundw
            case rel => exact ⟨q + 1, by omega, by omega, by go_num, hide (below_drewN HY.out _)⟩
            case measure => simp [intOf]; omega
        · have i9 : ¬ (q : Int) < (cn : Int) := by omega
          go_wp2_with fail
          with_reducible refine (HC.out _).mono ?_
          rintro e w7 ⟨rfl, e7⟩
          have E9 := hide (Ext.trans HEY.out e7)
          clear e7
          go_wp2_with fail
          go_ret
          exact ⟨rfl, E9.out⟩
end Go.Proofs.YtfelgolfebhmkaaDoor
