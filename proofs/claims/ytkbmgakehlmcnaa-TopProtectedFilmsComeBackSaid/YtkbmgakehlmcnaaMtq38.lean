/- Walk: compact (program). Conditions as stated. -/
import Derived.Test.YtkbmgakehlmcnaaMtq36
import Derived.Test.YtkbmgakehlmcnaaMtq37
import Derived.Test.YtkbmgakehlmcnaaMtq35
open List (setIfInBounds_toArray set_cons_zero set_cons_succ)
namespace Go.Proofs.Ytkbmgakehlmcnaa
open Go.RowKit
def staK (l : List Smp) (k : Nat) : Int := if 0 < k then (l.getD 0 dS).time else 0
def CmS (w0 W : World) (gf : Nat) (l : List Smp) (k : Nat) (st : Int) (vs vh vz vk vp : Value) (x : Option Nat) (xs : Array Value) : Prop :=
  CmI w0 W gf #[.int .i64 st, vs, vh, vz, .slice none 0 0, .slice none 0 0, vp] vs vh vz vk (rowK Smp.step l k) (rowK Smp.shift l k) (szK l k) (keyK l k) x xs ∧ vk ≠ .slice none 0 0
def CmB (w0 W : World) (gf : Nat) (st : Int) (T : Tab) (pv : Value) : Prop :=
  ∃ sA sn sc hA hn hc zA zn zc kA kn kc, Blk W gf 82 #[.int .i64 st, .slice sA sn sc, .slice hA hn hc, .slice zA zn zc, .slice kA kn kc, .slice none 0 0, pv] ∧
    LA W w0.heap.size 2 e2 sA sn sc T.steps ∧ LA W w0.heap.size 2 e2 hA hn hc T.shifts ∧ LA W w0.heap.size 1 e64 zA zn zc T.sizes ∧ LA W w0.heap.size 1 e64 kA kn kc T.keys ∧ (kA = none ↔ T.nok = true) ∧ Tw w0 W gf none
theorem At.capped {α : Type} {w : World} {sz : Nat} {enc : α → List Value} {A : Option Addr} {n c : Nat} {xs : List α} (h : At w sz enc A n c xs) (hn : 0 < n) : At w sz enc A n n xs :=
  ⟨h.len, Nat.le_refl _, Nat.le_trans h.le h.max, (fun e => by obtain ⟨b, off, e2, _⟩ := h.addr hn; rw [e] at e2; cases e2), h.cells⟩
def SRd (gf sb : Nat) (vs vh vz : Value) (y1 y2 y3 : Int) (W : World) : Prop :=
  W.cell? ⟨gf, 1, none⟩ = some vs ∧ W.cell? ⟨gf, 2, none⟩ = some vh ∧ W.cell? ⟨gf, 3, none⟩ = some vz ∧ W.cell? ⟨sb, 1, none⟩ = some (.int .i64 y1) ∧ W.cell? ⟨sb, 2, none⟩ = some (.int .i64 y2) ∧ W.cell? ⟨sb, 3, none⟩ = some (.int .i64 y3)
theorem CmI.srd {w0 W : World} {gf sb : Nat} {st y0 y1 y2 y3 : Int} {y4 : Bool} {vs vh vz u1 u2 u3 vk c4 c5 c6 : Value} {S H : List (Int × Int)} {Z K : List Int} (h : CmI w0 W gf #[.int .i64 st, vs, vh, vz, c4, c5, c6] u1 u2 u3 vk S H Z K (some sb) #[.int .i64 y0, .int .i64 y1, .int .i64 y2, .int .i64 y3, .bool y4]) : SRd gf sb vs vh vz y1 y2 y3 W :=
  ⟨h.tab.cell 1, h.tab.cell 2, h.tab.cell 3, (h.box _ rfl).1.cell 1, (h.box _ rfl).1.cell 2, (h.box _ rfl).1.cell 3⟩
set_option linter.unusedVariables false in
set_option linter.unusedSimpArgs false in
set_option maxRecDepth 100000 in
set_option maxHeartbeats 16000000 in
theorem keyCompact_in {A : Option Addr} {n c : Nat} {l : List Smp} {B : Option Addr} {m d : Nat} {ch : List Int} {D : Option Addr} {q r : Nat} {pl : List Int} {w : World} (h : At w 5 eSm A n c l) (hc : At w 1 e64 B m d ch) (hp : At w 1 e64 D q r pl) (hn : n ≤ 5000) (hm : m ≤ 5000) (hq : q ≤ 5000) :
    Calls Try.prog 49 #[.slice A n c, .slice B m d, .slice D q r] w (fun e w' => ∃ v, e = .returned v ∧ TbB w' w.heap.size v (cmpT l ch pl) ∧ Ext w w') := by
  have H := hide h
  have HC := hide hc
  have HL := hide h.len
  have HCL := hide hc.len
  have HPL := hide hp.len
  have HAB := hide (fun hn => h.blk_lt len_eSm (by omega) hn)
  have HCB := hide (fun hn => hc.blk_lt len_e64 (by omega) hn)
  have HCLO := hide (cloneI_any (hp.ext (Ext.alloc w (.cells #[.int .i64 0, .slice none 0 0, .slice none 0 0, .slice none 0 0, .slice none 0 0, .slice none 0 0, .slice none 0 0] 82))) (by omega))
  obtain ⟨i0_, hi0, hz0, hz1, hz2⟩ := info_parts Try.info3
  obtain ⟨j0_, hj0, hy0, hy1, hy2⟩ := info_parts Try.info150
  clear h hc hp
  go_enter Try.func49, Try.ntmps49
  go_wp2_with fail
  with_reducible refine HCLO.out.mono ?_
  rintro e w1 ⟨pA, pc, rfl, op, _, e1⟩
  have OP := hide op
  have E1 := hide (Ext.trans (Ext.alloc _ _) e1)
  have R1 := hide ((Blk.new w 82 #[.int .i64 0, .slice none 0 0, .slice none 0 0, .slice none 0 0, .slice none 0 0, .slice none 0 0, .slice none 0 0]).ext e1)
  clear op e1 HCLO
  go_upto_region 2 with (fail)
  refine gen_wpC fun w0 h0 => ?_
  obtain ⟨gf, hgf⟩ : ∃ gf, gf = w1.heap.size := ⟨_, rfl⟩
  rw [← hgf]
  have E0 : Hid (Ext w w0) := hide (by rw [h0]; exact Ext.trans E1.out (Ext.alloc _ _))
  have R0 := hide (show Blk w0 w.heap.size 82 #[.int .i64 0, .slice none 0 0, .slice none 0 0, .slice none 0 0, .slice none 0 0, .slice none 0 0, .slice none 0 0] from by rw [h0]; exact R1.out.alloc _)
  have T0 : Hid (Blk w0 gf 82 #[.int .i64 0, .slice none 0 0, .slice none 0 0, .slice none 0 0, .slice none 0 0, .slice none 0 0, .slice pA q pc]) := hide (by rw [h0, hgf]; exact Blk.new _ _ _)
  have LP : Hid (At w0 1 e64 pA q pc pl ∧ ∀ a, pA = some a → w.heap.size + 1 ≤ a.block ∧ a.block < gf) := hide ⟨by rw [h0]; exact (OP.out.atS len_e64).ext (Ext.alloc _ _), fun a ha => by have := OP.out.lt a.block (by rw [ha]; rfl); rw [World.size_alloc] at this; omega⟩
  have HGF : Hid (w.heap.size < gf) := hide (by have := R1.out.lt; omega)
  have hgl : gf < w0.heap.size := T0.out.lt
  have HSM := hide (fun (W : World) (hT : Tw w0 W gf none) => (H.out.ext E0.out).twn hT (fun h1 a ha => by have := HAB.out h1 a ha; have := HGF.out; omega))
  have HCM := hide (fun (W : World) (hT : Tw w0 W gf none) => (HC.out.ext E0.out).twn hT (fun h1 a ha => by have := HCB.out h1 a ha; have := HGF.out; omega))
  have I0 : Hid (CmS w0 (w0.alloc (.cells #[] 3)) gf l 0 (staK l 0) (.slice none 0 0) (.slice none 0 0) (.slice none 0 0) (.slice (some ⟨w0.heap.size, 0, none⟩) 0 0) (.slice pA q pc) none #[]) := hide (by
    have ok : Own (w0.alloc (.cells #[] 3)) w0.heap.size 3 1 e64 (.slice (some ⟨w0.heap.size, 0, none⟩) 0 0) [] := ⟨by simp, .inr ⟨w0.heap.size, 0, #[], rfl, Nat.le_refl _, heap_alloc_new w0 _, Nat.le_refl _, by unfold maxLen; omega, rfl, rfl⟩⟩
    refine ⟨⟨hgl, T0.out.alloc _, Own.nil _ _ _ _ _, Own.nil _ _ _ _ _, Own.nil _ _ _ _ _, ok, ?_, (fun b hb => by cases hb), Tw.of_ext (Ext.alloc _ _) _ _⟩, by simp⟩
    intro i j hij b hi hj
    match i, hi with
    | 3, hi => match j, hj with
      | 3, _ => exact hij rfl
      | j + 4, hj => match j, hj with
        | 0, hj => cases hj
        | j + 1, hj => simp at hj
      | 0, hj => cases hj
      | 1, hj => cases hj
      | 2, hj => cases hj
    | 0, hi => cases hi
    | 1, hi => cases hi
    | 2, hi => cases hi
    | 4, hi => cases hi
    | i + 5, hi => simp at hi)
  clear h0 hgf R1 OP E1
  go_wp2_with fail
  go_loopw [8, 20] (fun rk ri wr => ∃ (k : Nat) (vs vh vz vk : Value) (x : Option Nat) (xs : Array Value), k ≤ n ∧ ri = .int .i64 k ∧ vk = rk ∧ Hid (CmS w0 wr gf l k (staK l k) vs vh vz vk (.slice pA q pc) x xs)) (fun _ ri _ => n - (intOf ri).toNat)
  case atStart => exact ⟨0, _, _, _, _, _, _, by omega, rfl, rfl, I0⟩
  case round =>
    obtain ⟨k, vs, vh, vz, vk, x_, xs_, hk, rfl, hvk, HI⟩ := hrel
    subst hvk
    by_cases hlt : k < n
    · obtain ⟨b, off, rfl, _⟩ := H.out.addr (by omega)
      have U1 : Hid (rowK Smp.step l (k + 1) = addR (rowK Smp.step l k) (l.getD k dS).step) := hide rfl
      have U2 : Hid (rowK Smp.shift l (k + 1) = addR (rowK Smp.shift l k) (l.getD k dS).shift) := hide rfl
      have U3 : Hid (szK l (k + 1) = szK l k ++ [(l.getD k dS).size]) := hide rfl
      have U4 : Hid (keyK l (k + 1) = if (l.getD k dS).key = true then keyK l k ++ [(k : Int) + 1] else keyK l k) := hide rfl
      have U5 : Hid (k = 0 → staK l (k + 1) = (l.getD k dS).time) := hide (fun h => by subst h; rfl)
      have U6 : Hid (k ≠ 0 → staK l (k + 1) = staK l k) := hide (fun h => by unfold staK; rw [if_pos (by omega), if_pos (by omega)])
      have HG1 := hide (fun (W : World) (ho : Own W w0.heap.size 128 2 e2 vs (rowK Smp.step l k)) (hb : w0.heap.size ≤ W.heap.size) => addRun_any (x := (l.getD k dS).step) ho hb (by have := (rowK_bd Smp.step l k).1; omega) (rowK_last Smp.step l (by omega)))
      have HG2 := hide (fun (W : World) (ho : Own W w0.heap.size 128 2 e2 vh (rowK Smp.shift l k)) (hb : w0.heap.size ≤ W.heap.size) => addRun_any (x := (l.getD k dS).shift) ho hb (by have := (rowK_bd Smp.shift l k).1; omega) (rowK_last Smp.shift l (by omega)))
      have hI := HI.out.1
      have hat := HSM.out _ hI.tw
      have a0 := hat.cellK hlt dS 0 _ rfl
      have a1 := hat.cellK hlt dS 1 _ rfl
      have a2 := hat.cellK hlt dS 2 _ rfl
      have a3 := hat.cellK hlt dS 3 _ rfl
      have a4 := hat.cellK hlt dS 4 _ rfl
      simp only [Nat.add_zero] at a0
      have HVK := hide HI.out.2
      have hzl : (szK l k).length ≤ 5000 := by rw [szK_len]; omega
      have hkl : (keyK l k).length ≤ 5000 := by have := keyK_len l k; omega
      have S1 : Hid ((szK l k).length + 1 ≤ maxLen) := hide (by unfold maxLen; omega)
      have S2 : Hid (((szK l k).length + 1) * 8 ≤ 140737488355328) := hide (by omega)
      have K1 : Hid ((keyK l k).length + 1 ≤ maxLen) := hide (by unfold maxLen; omega)
      have K2 : Hid (((keyK l k).length + 1) * 8 ≤ 140737488355328) := hide (by omega)
      clear hzl hkl HI hat
      generalize (l.getD k dS).time = y0 at *
      generalize (l.getD k dS).step = y1 at *
      generalize (l.getD k dS).shift = y2 at *
      generalize (l.getD k dS).size = y3 at *
      generalize (l.getD k dS).key = y4 at *
      generalize rowK Smp.step l k = S at *
      generalize rowK Smp.shift l k = R at *
      generalize szK l k = Z at *
      generalize keyK l k = Ks at *
      generalize staK l k = sk at *
      have i1 : (k : Int) < (n : Int) := by omega
      have i0 : (0 : Int) ≤ (k : Int) := by omega
      have i8 : IntKind.i64.wrap ((k : Int) + 1) = (k : Int) + 1 := by rw [IntKind.wrap_i64]; omega
      have HI := hide hI
      clear hI
      go_upto_region 6 with (fail)
      refine gen_wpC fun w6 h6 => ?_
      obtain ⟨sb, hsb⟩ : ∃ sb, sb = wr.heap.size := ⟨_, rfl⟩
      have I6 : Hid (CmI w0 w6 gf #[.int .i64 sk, vs, vh, vz, .slice none 0 0, .slice none 0 0, .slice pA q pc] vs vh vz vk S R Z Ks (some sb) #[.int .i64 y0, .int .i64 y1, .int .i64 y2, .int .i64 y3, .bool y4]) := hide (by rw [h6, hsb]; exact HI.out.boxed _)
      rw [← hsb]
      clear h6 hsb HI a0 a1 a2 a3 a4
      have x0 : w6.cell? ⟨gf, 0, none⟩ = some (.int .i64 sk) := I6.out.tab.cell 0
      have f0 := I6.out.tab.frozen 0
      have b0 : w6.cell? ⟨sb, 0, none⟩ = some (.int .i64 y0) := (I6.out.box _ rfl).1.cell 0
      go_upto_if 26 with (fail)
      go_cut [] (fun wx => Hid (CmI w0 wx gf #[.int .i64 (staK l (k + 1)), vs, vh, vz, .slice none 0 0, .slice none 0 0, .slice pA q pc] vs vh vz vk S R Z Ks (some sb) #[.int .i64 y0, .int .i64 y1, .int .i64 y2, .int .i64 y3, .bool y4]))
      case first =>
        rcases Nat.eq_zero_or_pos k with h0 | h0
        · have d0 : ((k : Int) == 0) = true := by rw [beq_iff_eq]; omega
          have UE := hide (U5.out h0)
          clear h0
          go_wp2_with fail
          go_meet
          exact hide (by rw [UE.out]; exact I6.out.set_ 0 (.int .i64 y0))
        · have d0 : ((k : Int) == 0) = false := by rw [beq_eq_false_iff_ne]; omega
          have UE := hide (U6.out (by omega))
          clear h0
          go_wp2_with fail
          go_meet
          exact hide (by rw [UE.out]; exact I6.out)
      case rest =>
      obtain ⟨w8, hw8⟩ : ∃ w8, w8 = wc := ⟨_, rfl⟩
      subst hw8
      have I8 := hcut
      clear hcut I6 x0 f0 b0
      obtain ⟨sk1, hsk⟩ : ∃ s, s = staK l (k + 1) := ⟨_, rfl⟩
      rw [← hsk] at I8
      have HSK := hide hsk
      clear hsk U5 U6
      go_upto_region 8 with (fail)
      go_cut [] (fun wx => ∃ v1 v2 v3, Hid (CmI w0 wx gf #[.int .i64 sk1, v1, v2, v3, .slice none 0 0, .slice none 0 0, .slice pA q pc] v1 v2 v3 vk (addR S y1) (addR R y2) (Z ++ [y3]) Ks (some sb) #[.int .i64 y0, .int .i64 y1, .int .i64 y2, .int .i64 y3, .bool y4]))
      case first =>
        have hS0 : SRd gf sb vs vh vz y1 y2 y3 (World.drew w8) := (I8.out.ext' (Ext.drew _)).srd
        have J0 := hide (I8.out.ext' (Ext.drew w8))
        obtain ⟨wd, hwd⟩ : ∃ wd, wd = World.drew w8 := ⟨_, rfl⟩
        refine region_z (S := SRd gf sb vs vh vz y1 y2 y3) 17 (by kernel_rfl) ?_
        change AnyZ _ _ _ _ _ _ _ _ _ (World.drew w8)
        rw [← hwd] at hS0 J0 ⊢
        clear hwd I8
        refine AnyZ.takeE (i := 0) (d := 30) (oi := _) (v := ?_) rfl rfl rfl (by kernel_rfl) (by kernel_rfl) (by kernel_rfl) (by kernel_rfl) (by kernel_rfl) (by kernel_rfl) (fun _ _ _ h => h) (Or.inl ⟨by rfl, ?_⟩) hS0 ?_
        rotate_left
        · intro W hW; obtain ⟨s1, s2, s3, s4, s5, s6⟩ := hW; first | (go_simp; done) | (go_simp; with_reducible rfl)
        try simp only [Act.put, setIfInBounds_toArray, set_cons_zero, set_cons_succ]
        refine AnyZ.takeE (i := 1) (d := 31) (oi := _) (v := ?_) rfl rfl rfl (by kernel_rfl) (by kernel_rfl) (by kernel_rfl) (by kernel_rfl) (by kernel_rfl) (by kernel_rfl) (fun _ _ _ h => h) (Or.inl ⟨by rfl, ?_⟩) hS0 ?_
        rotate_left
        · intro W hW; obtain ⟨s1, s2, s3, s4, s5, s6⟩ := hW; first | (go_simp; done) | (go_simp; with_reducible rfl)
        try simp only [Act.put, setIfInBounds_toArray, set_cons_zero, set_cons_succ]
        refine AnyZ.takeE (i := 2) (d := 32) (oi := _) (v := ?_) rfl rfl rfl (by kernel_rfl) (by kernel_rfl) (by kernel_rfl) (by kernel_rfl) (by kernel_rfl) (by kernel_rfl) (fun _ _ _ h => h) (Or.inl ⟨by rfl, ?_⟩) hS0 ?_
        rotate_left
        · intro W hW; obtain ⟨s1, s2, s3, s4, s5, s6⟩ := hW; first | (go_simp; done) | (go_simp; with_reducible rfl)
        try simp only [Act.put, setIfInBounds_toArray, set_cons_zero, set_cons_succ]
        refine AnyZ.takeE (i := 3) (d := 33) (oi := _) (v := ?_) rfl rfl rfl (by kernel_rfl) (by kernel_rfl) (by kernel_rfl) (by kernel_rfl) (by kernel_rfl) (by kernel_rfl) (fun _ _ _ h => h) (Or.inl ⟨by rfl, ?_⟩) hS0 ?_
        rotate_left
        · intro W hW; obtain ⟨s1, s2, s3, s4, s5, s6⟩ := hW; first | (go_simp; done) | (go_simp; with_reducible rfl)
        try simp only [Act.put, setIfInBounds_toArray, set_cons_zero, set_cons_succ]
        refine AnyZ.takeE (i := 5) (d := 35) (oi := _) (v := ?_) rfl rfl rfl (by kernel_rfl) (by kernel_rfl) (by kernel_rfl) (by kernel_rfl) (by kernel_rfl) (by kernel_rfl) (fun _ _ _ h => h) (Or.inl ⟨by rfl, ?_⟩) hS0 ?_
        rotate_left
        · intro W hW; obtain ⟨s1, s2, s3, s4, s5, s6⟩ := hW; first | (go_simp; done) | (go_simp; with_reducible rfl)
        try simp only [Act.put, setIfInBounds_toArray, set_cons_zero, set_cons_succ]
        refine AnyZ.takeE (i := 6) (d := 36) (oi := _) (v := ?_) rfl rfl rfl (by kernel_rfl) (by kernel_rfl) (by kernel_rfl) (by kernel_rfl) (by kernel_rfl) (by kernel_rfl) (fun _ _ _ h => h) (Or.inl ⟨by rfl, ?_⟩) hS0 ?_
        rotate_left
        · intro W hW; obtain ⟨s1, s2, s3, s4, s5, s6⟩ := hW; first | (go_simp; done) | (go_simp; with_reducible rfl)
        try simp only [Act.put, setIfInBounds_toArray, set_cons_zero, set_cons_succ]
        refine AnyZ.takeC (i := 7) (d := 37) (oi := _) (v := ?_) [17, 15, 9, 8] rfl rfl (by kernel_rfl) (by kernel_rfl) (by kernel_rfl) (by kernel_rfl) (by kernel_rfl) (by kernel_rfl) (by kernel_rfl) (fun _ _ _ h => h) (Or.inl ⟨by rfl, ?_⟩) hS0 ?_
        rotate_left
        · intro W hW; obtain ⟨s1, s2, s3, s4, s5, s6⟩ := hW; first | (go_simp; done) | (go_simp; with_reducible rfl)
        try simp only [Act.put, setIfInBounds_toArray, set_cons_zero, set_cons_succ]
        refine AnyZ.takeC (i := 8) (d := 38) (oi := _) (v := ?_) [17, 15, 9] rfl rfl (by kernel_rfl) (by kernel_rfl) (by kernel_rfl) (by kernel_rfl) (by kernel_rfl) (by kernel_rfl) (by kernel_rfl) (fun _ _ _ h => h) (Or.inl ⟨by rfl, ?_⟩) hS0 ?_
        rotate_left
        · intro W hW; obtain ⟨s1, s2, s3, s4, s5, s6⟩ := hW; first | (go_simp; done) | (go_simp; with_reducible rfl)
        try simp only [Act.put, setIfInBounds_toArray, set_cons_zero, set_cons_succ]
        refine AnyZ.takeE (i := 10) (d := 40) (oi := _) (v := ?_) rfl rfl rfl (by kernel_rfl) (by kernel_rfl) (by kernel_rfl) (by kernel_rfl) (by kernel_rfl) (by kernel_rfl) (fun _ _ _ h => h) (Or.inl ⟨by rfl, ?_⟩) hS0 ?_
        rotate_left
        · intro W hW; obtain ⟨s1, s2, s3, s4, s5, s6⟩ := hW; first | (go_simp; done) | (go_simp; with_reducible rfl)
        try simp only [Act.put, setIfInBounds_toArray, set_cons_zero, set_cons_succ]
        refine AnyZ.takeE (i := 11) (d := 41) (oi := _) (v := ?_) rfl rfl rfl (by kernel_rfl) (by kernel_rfl) (by kernel_rfl) (by kernel_rfl) (by kernel_rfl) (by kernel_rfl) (fun _ _ _ h => h) (Or.inl ⟨by rfl, ?_⟩) hS0 ?_
        rotate_left
        · intro W hW; obtain ⟨s1, s2, s3, s4, s5, s6⟩ := hW; first | (go_simp; done) | (go_simp; with_reducible rfl)
        try simp only [Act.put, setIfInBounds_toArray, set_cons_zero, set_cons_succ]
        refine AnyZ.takeC (i := 12) (d := 42) (oi := _) (v := ?_) [17, 15, 14, 13] rfl rfl (by kernel_rfl) (by kernel_rfl) (by kernel_rfl) (by kernel_rfl) (by kernel_rfl) (by kernel_rfl) (by kernel_rfl) (fun _ _ _ h => h) (Or.inl ⟨by rfl, ?_⟩) hS0 ?_
        rotate_left
        · intro W hW; obtain ⟨s1, s2, s3, s4, s5, s6⟩ := hW; first | (go_simp; done) | (go_simp; with_reducible rfl)
        try simp only [Act.put, setIfInBounds_toArray, set_cons_zero, set_cons_succ]
        refine AnyZ.takeC (i := 13) (d := 43) (oi := _) (v := ?_) [17, 15, 14] rfl rfl (by kernel_rfl) (by kernel_rfl) (by kernel_rfl) (by kernel_rfl) (by kernel_rfl) (by kernel_rfl) (by kernel_rfl) (fun _ _ _ h => h) (Or.inl ⟨by rfl, ?_⟩) hS0 ?_
        rotate_left
        · intro W hW; obtain ⟨s1, s2, s3, s4, s5, s6⟩ := hW; first | (go_simp; done) | (go_simp; with_reducible rfl)
        try simp only [Act.put, setIfInBounds_toArray, set_cons_zero, set_cons_succ]
        refine AnyZ.many (i := 4) (r := [14]) (by kernel_rfl) (AllZ.cons rfl (fun K hK => ?_) (AllZ.cons rfl (fun K hK => ?_) trivial))
        · skip
          go_simp
          go_at_call 73
          with_reducible refine (HG1.out _ J0.out.s J0.out.tw.size).mono ?_
          rintro e wa1 ⟨va1, rfl, oa, ga⟩
          obtain ⟨Aa1, ca1, hva, _⟩ := oa.at_ len_e2
          subst hva
          have Ia1 := hide (J0.out.row_s oa ga)
          clear oa ga
          refine hK.out _ _ (fun h => ?_) ?_
          · exact Ia1.out.srd
          clear hK K
          try simp only [Act.put, setIfInBounds_toArray, set_cons_zero, set_cons_succ]
          refine AnyZ.takePE (i := 16) (d := 46) (oi := _) (v := ?_) rfl rfl (by kernel_rfl) (by kernel_rfl) (by kernel_rfl) (by kernel_rfl) (fun _ _ _ h => h) (Or.inl ⟨by rfl, ?_⟩) Ia1.out.srd ?_
          rotate_left
          · intro W hW; first | (go_simp; done) | (go_simp; with_reducible rfl)
          try simp only [Act.put, setIfInBounds_toArray, set_cons_zero, set_cons_succ]
          refine AnyZ.many (i := 9) (r := [14]) (by kernel_rfl) (AllZ.cons rfl (fun K hK => ?_) (AllZ.cons rfl (fun K hK => ?_) trivial))
          · skip
            go_simp
            go_at_call 73
            with_reducible refine (HG2.out _ Ia1.out.h Ia1.out.tw.size).mono ?_
            rintro e wa2 ⟨va2, rfl, oa, ga⟩
            obtain ⟨Aa2, ca2, hva, _⟩ := oa.at_ len_e2
            subst hva
            have Ia2 := hide (Ia1.out.row_h oa ga)
            clear oa ga
            refine hK.out _ _ (fun h => ?_) ?_
            · exact Ia2.out.srd
            clear hK K
            try simp only [Act.put, setIfInBounds_toArray, set_cons_zero, set_cons_succ]
            refine AnyZ.step (i := 14) rfl (by kernel_rfl) (fun K hK => ?_)
            go_simp
            refine hK.out _ _ (fun h => ?_) ?_
            · exact (Ia2.out.ext' (Ext.alloc _ _)).srd
            clear hK K
            try simp only [Act.put, setIfInBounds_toArray, set_cons_zero, set_cons_succ]
            refine gen_z fun wb3 hb3 => ?_
            have Ib3 := hide (show CmI w0 wb3 _ _ _ _ _ _ _ _ _ _ _ _ from by rw [hb3]; exact Ia2.out.ext' (Ext.alloc _ _))
            have Ib3B := hide (fun i b hb => (Ia2.out.lt i b hb).2)
            have Nb3 := hide (show At wb3 1 e64 (some ⟨wa2.heap.size, 0, none⟩) 1 1 [y3] from by rw [hb3]; exact At.new1 wa2 y3 _ rfl _)
            clear hb3
            refine AnyZ.step (i := 15) rfl (by kernel_rfl) (fun K hK => ?_)
            have Oq := hide Ib3.out.z
            have Bq := hide Ib3.out.tw.size
            refine step_append_at rfl _ _ 79 rfl w0.heap.size 3 i0_ _ 8 Try.underlying79 hi0 hz0 hz1 hz2 rfl (by omega) len_e64 one_e64 _ _ (by rfl) Oq.out (some ⟨wa2.heap.size, 0, none⟩) 1 1 [y3] (by simp [Act.eval]) Nb3.out S1.out S2.out Bq.out ?_
            intro vc4 wc4 oc gc _ rc
            obtain ⟨Ac4, cc4, hvc, _⟩ := oc.at_ len_e64
            rw [List.length_append, List.length_singleton] at hvc
            subst hvc
            have Ic4 := hide (Ib3.out.row_z oc (Grw.of gc rc))
            clear oc gc rc Oq Bq
            refine hK.out _ _ (fun h => ?_) ?_
            · exact Ic4.out.srd
            clear hK K
            try simp only [Act.put, setIfInBounds_toArray, set_cons_zero, set_cons_succ]
            have x1 : wc4.cell? ⟨gf, 1, none⟩ = some vs := Ic4.out.tab.cell 1
            have x2 : wc4.cell? ⟨gf, 2, none⟩ = some vh := Ic4.out.tab.cell 2
            have x3 : wc4.cell? ⟨gf, 3, none⟩ = some vz := Ic4.out.tab.cell 3
            have f1 := Ic4.out.tab.frozen 1
            have f2 := Ic4.out.tab.frozen 2
            have f3 := Ic4.out.tab.frozen 3
            refine AnyZ.step (i := 17) rfl (by kernel_rfl) (fun K hK => ?_)
            go_simp
            refine hK.out _ _ (fun h => ?_) ?_
            · exact absurd (h.symm.trans (show _ = true by kernel_rfl)) (by simp)
            clear hK K
            try simp only [Act.put, setIfInBounds_toArray, set_cons_zero, set_cons_succ]
            refine AnyZ.step (i := 18) rfl (by kernel_rfl) (fun K hK => ?_)
            go_simp
            refine hK.out _ _ (fun h => ?_) ?_
            · exact absurd (h.symm.trans (show _ = true by kernel_rfl)) (by simp)
            clear hK K
            try simp only [Act.put, setIfInBounds_toArray, set_cons_zero, set_cons_succ]
            refine AnyZ.step (i := 19) rfl (by kernel_rfl) (fun K hK => ?_)
            go_simp
            refine hK.out _ _ (fun h => ?_) ?_
            · exact absurd (h.symm.trans (show _ = true by kernel_rfl)) (by simp)
            clear hK K
            try simp only [Act.put, setIfInBounds_toArray, set_cons_zero, set_cons_succ]
            refine AnyZ.step (i := 20) rfl (by kernel_rfl) (fun K hK => ?_)
            go_simp
            refine hK.out _ _ (fun h => ?_) ?_
            · exact absurd (h.symm.trans (show _ = true by kernel_rfl)) (by simp)
            clear hK K
            try simp only [Act.put, setIfInBounds_toArray, set_cons_zero, set_cons_succ]
            refine AnyZ.step (i := 21) rfl (by kernel_rfl) (fun K hK => ?_)
            go_simp
            refine hK.out _ _ (fun h => ?_) ?_
            · exact absurd (h.symm.trans (show _ = true by kernel_rfl)) (by simp)
            clear hK K
            refine AnyZ.done (by kernel_rfl) ?_ _
            go_wp2_with fail
            go_meet
            exact ⟨_, _, _, hide (((Ic4.out.set_ 1 (.slice Aa1 (addR S y1).length ca1)).set_ 2 (.slice Aa2 (addR R y2).length ca2)).set_ 3 (.slice Ac4 (Z.length + 1) cc4))⟩
          · skip
            go_simp
            refine hK.out _ _ (fun h => ?_) ?_
            · exact (Ia1.out.ext' (Ext.alloc _ _)).srd
            clear hK K
            try simp only [Act.put, setIfInBounds_toArray, set_cons_zero, set_cons_succ]
            refine gen_z fun wb5 hb5 => ?_
            have Ib5 := hide (show CmI w0 wb5 _ _ _ _ _ _ _ _ _ _ _ _ from by rw [hb5]; exact Ia1.out.ext' (Ext.alloc _ _))
            have Ib5B := hide (fun i b hb => (Ia1.out.lt i b hb).2)
            have Nb5 := hide (show At wb5 1 e64 (some ⟨wa1.heap.size, 0, none⟩) 1 1 [y3] from by rw [hb5]; exact At.new1 wa1 y3 _ rfl _)
            clear hb5
            refine AnyZ.step (i := 9) rfl (by kernel_rfl) (fun K hK => ?_)
            go_simp
            go_at_call 73
            with_reducible refine (HG2.out _ Ib5.out.h Ib5.out.tw.size).mono ?_
            rintro e wa6 ⟨va6, rfl, oa, ga⟩
            obtain ⟨Aa6, ca6, hva, _⟩ := oa.at_ len_e2
            subst hva
            have Ia6 := hide (Ib5.out.row_h oa ga)
            have Na6 := hide (Nb5.out.grow ga.grown (fun a ha e => by injection ha with ha; subst ha; have h1 := Ib5B.out 1 _ e.symm; exact Nat.lt_irrefl _ h1))
            clear oa ga
            refine hK.out _ _ (fun h => ?_) ?_
            · exact Ia6.out.srd
            clear hK K
            try simp only [Act.put, setIfInBounds_toArray, set_cons_zero, set_cons_succ]
            refine AnyZ.step (i := 15) rfl (by kernel_rfl) (fun K hK => ?_)
            have Oq := hide Ia6.out.z
            have Bq := hide Ia6.out.tw.size
            refine step_append_at rfl _ _ 79 rfl w0.heap.size 3 i0_ _ 8 Try.underlying79 hi0 hz0 hz1 hz2 rfl (by omega) len_e64 one_e64 _ _ (by rfl) Oq.out (some ⟨wa1.heap.size, 0, none⟩) 1 1 [y3] (by simp [Act.eval]) Na6.out S1.out S2.out Bq.out ?_
            intro vc7 wc7 oc gc _ rc
            obtain ⟨Ac7, cc7, hvc, _⟩ := oc.at_ len_e64
            rw [List.length_append, List.length_singleton] at hvc
            subst hvc
            have Ic7 := hide (Ia6.out.row_z oc (Grw.of gc rc))
            clear oc gc rc Oq Bq
            refine hK.out _ _ (fun h => ?_) ?_
            · exact Ic7.out.srd
            clear hK K
            try simp only [Act.put, setIfInBounds_toArray, set_cons_zero, set_cons_succ]
            have x1 : wc7.cell? ⟨gf, 1, none⟩ = some vs := Ic7.out.tab.cell 1
            have x2 : wc7.cell? ⟨gf, 2, none⟩ = some vh := Ic7.out.tab.cell 2
            have x3 : wc7.cell? ⟨gf, 3, none⟩ = some vz := Ic7.out.tab.cell 3
            have f1 := Ic7.out.tab.frozen 1
            have f2 := Ic7.out.tab.frozen 2
            have f3 := Ic7.out.tab.frozen 3
            refine AnyZ.step (i := 17) rfl (by kernel_rfl) (fun K hK => ?_)
            go_simp
            refine hK.out _ _ (fun h => ?_) ?_
            · exact absurd (h.symm.trans (show _ = true by kernel_rfl)) (by simp)
            clear hK K
            try simp only [Act.put, setIfInBounds_toArray, set_cons_zero, set_cons_succ]
            refine AnyZ.step (i := 18) rfl (by kernel_rfl) (fun K hK => ?_)
            go_simp
            refine hK.out _ _ (fun h => ?_) ?_
            · exact absurd (h.symm.trans (show _ = true by kernel_rfl)) (by simp)
            clear hK K
            try simp only [Act.put, setIfInBounds_toArray, set_cons_zero, set_cons_succ]
            refine AnyZ.step (i := 19) rfl (by kernel_rfl) (fun K hK => ?_)
            go_simp
            refine hK.out _ _ (fun h => ?_) ?_
            · exact absurd (h.symm.trans (show _ = true by kernel_rfl)) (by simp)
            clear hK K
            try simp only [Act.put, setIfInBounds_toArray, set_cons_zero, set_cons_succ]
            refine AnyZ.step (i := 20) rfl (by kernel_rfl) (fun K hK => ?_)
            go_simp
            refine hK.out _ _ (fun h => ?_) ?_
            · exact absurd (h.symm.trans (show _ = true by kernel_rfl)) (by simp)
            clear hK K
            try simp only [Act.put, setIfInBounds_toArray, set_cons_zero, set_cons_succ]
            refine AnyZ.step (i := 21) rfl (by kernel_rfl) (fun K hK => ?_)
            go_simp
            refine hK.out _ _ (fun h => ?_) ?_
            · exact absurd (h.symm.trans (show _ = true by kernel_rfl)) (by simp)
            clear hK K
            refine AnyZ.done (by kernel_rfl) ?_ _
            go_wp2_with fail
            go_meet
            exact ⟨_, _, _, hide (((Ic7.out.set_ 1 (.slice Aa1 (addR S y1).length ca1)).set_ 2 (.slice Aa6 (addR R y2).length ca6)).set_ 3 (.slice Ac7 (Z.length + 1) cc7))⟩
        · skip
          go_simp
          refine hK.out _ _ (fun h => ?_) ?_
          · exact (J0.out.ext' (Ext.alloc _ _)).srd
          clear hK K
          try simp only [Act.put, setIfInBounds_toArray, set_cons_zero, set_cons_succ]
          refine gen_z fun wb8 hb8 => ?_
          have Ib8 := hide (show CmI w0 wb8 _ _ _ _ _ _ _ _ _ _ _ _ from by rw [hb8]; exact J0.out.ext' (Ext.alloc _ _))
          have Ib8B := hide (fun i b hb => (J0.out.lt i b hb).2)
          have Nb8 := hide (show At wb8 1 e64 (some ⟨wd.heap.size, 0, none⟩) 1 1 [y3] from by rw [hb8]; exact At.new1 wd y3 _ rfl _)
          clear hb8
          refine AnyZ.step (i := 4) rfl (by kernel_rfl) (fun K hK => ?_)
          go_simp
          go_at_call 73
          with_reducible refine (HG1.out _ Ib8.out.s Ib8.out.tw.size).mono ?_
          rintro e wa9 ⟨va9, rfl, oa, ga⟩
          obtain ⟨Aa9, ca9, hva, _⟩ := oa.at_ len_e2
          subst hva
          have Ia9 := hide (Ib8.out.row_s oa ga)
          have Na9 := hide (Nb8.out.grow ga.grown (fun a ha e => by injection ha with ha; subst ha; have h1 := Ib8B.out 0 _ e.symm; exact Nat.lt_irrefl _ h1))
          clear oa ga
          refine hK.out _ _ (fun h => ?_) ?_
          · exact Ia9.out.srd
          clear hK K
          try simp only [Act.put, setIfInBounds_toArray, set_cons_zero, set_cons_succ]
          refine AnyZ.takePE (i := 16) (d := 46) (oi := _) (v := ?_) rfl rfl (by kernel_rfl) (by kernel_rfl) (by kernel_rfl) (by kernel_rfl) (fun _ _ _ h => h) (Or.inl ⟨by rfl, ?_⟩) Ia9.out.srd ?_
          rotate_left
          · intro W hW; first | (go_simp; done) | (go_simp; with_reducible rfl)
          try simp only [Act.put, setIfInBounds_toArray, set_cons_zero, set_cons_succ]
          refine AnyZ.step (i := 9) rfl (by kernel_rfl) (fun K hK => ?_)
          go_simp
          go_at_call 73
          with_reducible refine (HG2.out _ Ia9.out.h Ia9.out.tw.size).mono ?_
          rintro e wa10 ⟨va10, rfl, oa, ga⟩
          obtain ⟨Aa10, ca10, hva, _⟩ := oa.at_ len_e2
          subst hva
          have Ia10 := hide (Ia9.out.row_h oa ga)
          have Na10 := hide (Na9.out.grow ga.grown (fun a ha e => by injection ha with ha; subst ha; have h1 := Ib8B.out 1 _ e.symm; exact Nat.lt_irrefl _ h1))
          clear oa ga
          refine hK.out _ _ (fun h => ?_) ?_
          · exact Ia10.out.srd
          clear hK K
          try simp only [Act.put, setIfInBounds_toArray, set_cons_zero, set_cons_succ]
          refine AnyZ.step (i := 15) rfl (by kernel_rfl) (fun K hK => ?_)
          have Oq := hide Ia10.out.z
          have Bq := hide Ia10.out.tw.size
          refine step_append_at rfl _ _ 79 rfl w0.heap.size 3 i0_ _ 8 Try.underlying79 hi0 hz0 hz1 hz2 rfl (by omega) len_e64 one_e64 _ _ (by rfl) Oq.out (some ⟨wd.heap.size, 0, none⟩) 1 1 [y3] (by simp [Act.eval]) Na10.out S1.out S2.out Bq.out ?_
          intro vc11 wc11 oc gc _ rc
          obtain ⟨Ac11, cc11, hvc, _⟩ := oc.at_ len_e64
          rw [List.length_append, List.length_singleton] at hvc
          subst hvc
          have Ic11 := hide (Ia10.out.row_z oc (Grw.of gc rc))
          clear oc gc rc Oq Bq
          refine hK.out _ _ (fun h => ?_) ?_
          · exact Ic11.out.srd
          clear hK K
          try simp only [Act.put, setIfInBounds_toArray, set_cons_zero, set_cons_succ]
          have x1 : wc11.cell? ⟨gf, 1, none⟩ = some vs := Ic11.out.tab.cell 1
          have x2 : wc11.cell? ⟨gf, 2, none⟩ = some vh := Ic11.out.tab.cell 2
          have x3 : wc11.cell? ⟨gf, 3, none⟩ = some vz := Ic11.out.tab.cell 3
          have f1 := Ic11.out.tab.frozen 1
          have f2 := Ic11.out.tab.frozen 2
          have f3 := Ic11.out.tab.frozen 3
          refine AnyZ.step (i := 17) rfl (by kernel_rfl) (fun K hK => ?_)
          go_simp
          refine hK.out _ _ (fun h => ?_) ?_
          · exact absurd (h.symm.trans (show _ = true by kernel_rfl)) (by simp)
          clear hK K
          try simp only [Act.put, setIfInBounds_toArray, set_cons_zero, set_cons_succ]
          refine AnyZ.step (i := 18) rfl (by kernel_rfl) (fun K hK => ?_)
          go_simp
          refine hK.out _ _ (fun h => ?_) ?_
          · exact absurd (h.symm.trans (show _ = true by kernel_rfl)) (by simp)
          clear hK K
          try simp only [Act.put, setIfInBounds_toArray, set_cons_zero, set_cons_succ]
          refine AnyZ.step (i := 19) rfl (by kernel_rfl) (fun K hK => ?_)
          go_simp
          refine hK.out _ _ (fun h => ?_) ?_
          · exact absurd (h.symm.trans (show _ = true by kernel_rfl)) (by simp)
          clear hK K
          try simp only [Act.put, setIfInBounds_toArray, set_cons_zero, set_cons_succ]
          refine AnyZ.step (i := 20) rfl (by kernel_rfl) (fun K hK => ?_)
          go_simp
          refine hK.out _ _ (fun h => ?_) ?_
          · exact absurd (h.symm.trans (show _ = true by kernel_rfl)) (by simp)
          clear hK K
          try simp only [Act.put, setIfInBounds_toArray, set_cons_zero, set_cons_succ]
          refine AnyZ.step (i := 21) rfl (by kernel_rfl) (fun K hK => ?_)
          go_simp
          refine hK.out _ _ (fun h => ?_) ?_
          · exact absurd (h.symm.trans (show _ = true by kernel_rfl)) (by simp)
          clear hK K
          refine AnyZ.done (by kernel_rfl) ?_ _
          go_wp2_with fail
          go_meet
          exact ⟨_, _, _, hide (((Ic11.out.set_ 1 (.slice Aa9 (addR S y1).length ca9)).set_ 2 (.slice Aa10 (addR R y2).length ca10)).set_ 3 (.slice Ac11 (Z.length + 1) cc11))⟩
      case rest =>
      obtain ⟨v1, v2, v3, J15⟩ := hcut
      obtain ⟨w15, hw15⟩ : ∃ w15, w15 = wc := ⟨_, rfl⟩
      subst hw15
      clear I8
      have a4 : w15.cell? ⟨sb, 4, none⟩ = some (.bool y4) := (J15.out.box _ rfl).1.cell 4
      cases y4 with
      | false =>
        go_wp2_with fail
        exact ⟨⟨k + 1, v1, v2, v3, _, _, _, by omega, by go_num, rfl, hide ⟨by rw [← HSK.out, U1.out, U2.out, U3.out, U4.out, if_neg (by simp)]; exact J15.out, HVK.out⟩⟩, by simp [intOf]; omega⟩
      | true =>
        have J16 := hide (J15.out.ext' (Ext.alloc w15 (.cells #[.int .i64 ((k : Int) + 1)] 3)))
        have J17 := hide J16.out.k
        have J18 : Hid (w0.heap.size ≤ (w15.alloc (.cells #[.int .i64 ((k : Int) + 1)] 3)).heap.size) := hide J16.out.tw.size
        go_wp2_with (at_builtin; refine wpList_append_at _ rfl (.tmp 51) (.tmp 54) 79 rfl w0.heap.size 3 i0_ _ 8 Try.underlying79 hi0 hz0 hz1 hz2 rfl (by omega) len_e64 one_e64 _ _ (by rfl) J17.out (some ⟨w15.heap.size, 0, none⟩) 1 1 [(k : Int) + 1] (by rfl) (At.new1 w15 ((k : Int) + 1) _ rfl _) K1.out K2.out J18.out ?_; intro v16 w16 o16 g16 n16 r16; have I16 := hide (J16.out.row_k o16 (Grw.of g16 r16)); have N16 := hide n16; clear o16 g16 n16 r16)
        exact ⟨⟨k + 1, v1, v2, v3, _, _, _, by omega, by go_num, rfl, hide ⟨by rw [← HSK.out, U1.out, U2.out, U3.out, U4.out, if_pos rfl]; exact I16.out, fun e => HVK.out (N16.out.1 e).1⟩⟩, by simp [intOf]; omega⟩
    · obtain rfl : k = n := by omega
      obtain ⟨w1', hw1⟩ : ∃ w1', w1' = wr := ⟨_, rfl⟩
      subst hw1
      have hI := HI.out.1
      obtain ⟨kg, kc, rfl⟩ := own_some hI.k HI.out.2
      obtain ⟨sA, sc, rfl, L1⟩ := LA.own hI.s len_e2
      obtain ⟨hA, hc, rfl, L2⟩ := LA.own hI.h len_e2
      obtain ⟨zA, zc, hvz, L3⟩ := LA.own hI.z len_e64
      have hzl := szK_len l k
      have hvz2 : vz = .slice zA k zc := by rw [hvz, hzl]
      have L3 : LA w1' w0.heap.size 1 e64 zA k zc (szK l k) := by rw [hzl] at L3; exact L3
      clear hvz hzl
      subst hvz2
      have L4 : LA w1' w0.heap.size 1 e64 (some ⟨kg, 0, none⟩) (keyK l k).length kc (keyK l k) := ⟨hI.k.atS len_e64, fun a ha => (hI.k.lt a.block (by rw [ha]; rfl)).1⟩
      have M1 := hide L1
      have M2 := hide L2
      have M3 := hide L3
      have M4 := hide L4
      have B1 := hide hI.tab
      have T1 := hide hI.tw
      have TS : Hid ((cmpT l ch pl).sizes = if oneK l k = true then (szK l k).take 1 else szK l k) := hide (by unfold cmpT; rw [HL.out])
      have TK : Hid ((cmpT l ch pl).keys = if allK l k = true then [] else keyK l k) := hide (by unfold cmpT; rw [HL.out])
      have TN : Hid ((cmpT l ch pl).nok = allK l k) := hide (by unfold cmpT; rw [HL.out])
      have TT1 : Hid ((cmpT l ch pl).steps = rowK Smp.step l k) := hide (by unfold cmpT; rw [HL.out])
      have TT2 : Hid ((cmpT l ch pl).shifts = rowK Smp.shift l k) := hide (by unfold cmpT; rw [HL.out])
      have TT0 : Hid (staK l k = (cmpT l ch pl).start) := hide (by unfold cmpT; rw [HL.out]; rfl)
      have TC : Hid ((cmpT l ch pl).chunks = chK ch m) := hide (by unfold cmpT; rw [HCL.out])
      have TP : Hid ((cmpT l ch pl).places = pl) := hide rfl
      obtain ⟨T, hTE⟩ : ∃ T, cmpT l ch pl = T := ⟨_, rfl⟩
      rw [hTE] at TS TK TN TT1 TT2 TT0 TC TP
      have HTE := hide hTE
      have ZL : Hid (k = 0 → szK l k = []) := hide (fun h => by rw [h]; rfl)
      have ZO : Hid (0 < k → ((minK (szK l k) (k - 1) == maxK (szK l k) (k - 1)) = oneK l k)) := hide (fun h => by
        have := one_test l h
        rw [Bool.eq_iff_iff, beq_iff_eq]; exact this)
      have KT := hide (all_test l k)
      rw [TT0.out] at B1
      obtain ⟨st, hst⟩ : ∃ st, st = T.start := ⟨_, rfl⟩
      rw [← hst] at B1
      have HST := hide hst.symm
      clear hst hTE TT0
      generalize rowK Smp.step l k = S at *
      generalize rowK Smp.shift l k = R at *
      generalize szK l k = Z at *
      generalize keyK l k = Ks at *
      generalize oneK l k = po at *
      generalize allK l k = pa at *
      have x3 : w1'.cell? ⟨gf, 3, none⟩ = some (.slice zA k zc) := B1.out.cell 3
      clear hI HI L1 L2 L3 L4 hlt hk
      go_upto_region 12 with (fail)
      go_cut [68] (fun s wx => ∃ go : Bool, s = .bool go ∧ Hid (go = (decide (0 < k) && po)) ∧ Hid (Ext w1' wx))
      case first =>
        rcases Nat.eq_zero_or_pos k with h0 | h0
        · have d0 : decide ((0 : Int) < (k : Int)) = false := by rw [decide_eq_false_iff_not]; omega
          have GG : Hid (false = (decide (0 < k) && po)) := hide (by simp [h0])
          have e0 : decide (0 < k) = false := by rw [decide_eq_false_iff_not]; omega
          clear h0
          refine region_any (by kernel_rfl) ?_
          refine any_take (i := 0) (d := 57) (oi := _) (v := ?_) rfl rfl (by kernel_rfl) (by kernel_rfl) (by kernel_rfl) (fun _ _ _ h => h) (Or.inl ⟨by rfl, ?_⟩) ?_
          rotate_left
          · intro W; first | (go_simp; done) | (go_simp; with_reducible rfl)
          try simp only [Act.put, setIfInBounds_toArray, set_cons_zero, set_cons_succ]
          refine any_take (i := 1) (d := 58) (oi := _) (v := ?_) rfl rfl (by kernel_rfl) (by kernel_rfl) (by kernel_rfl) (fun _ _ _ h => h) (Or.inl ⟨by rfl, ?_⟩) ?_
          rotate_left
          · intro W; first | (go_simp; done) | (go_simp; with_reducible rfl)
          try simp only [Act.put, setIfInBounds_toArray, set_cons_zero, set_cons_succ]
          refine any_take (i := 2) (d := 59) (oi := _) (v := ?_) rfl rfl (by kernel_rfl) (by kernel_rfl) (by kernel_rfl) (fun _ _ _ h => h) (Or.inl ⟨by rfl, ?_⟩) ?_
          rotate_left
          · intro W; first | (go_simp; done) | (go_simp; with_reducible rfl)
          try simp only [Act.put, setIfInBounds_toArray, set_cons_zero, set_cons_succ]
          refine any_take (i := 3) (d := 60) (oi := _) (v := ?_) rfl rfl (by kernel_rfl) (by kernel_rfl) (by kernel_rfl) (fun _ _ _ h => h) (Or.inl ⟨by rfl, ?_⟩) ?_
          rotate_left
          · intro W; first | (go_simp; done) | (go_simp; with_reducible rfl)
          try simp only [Act.put, setIfInBounds_toArray, set_cons_zero, set_cons_succ]
          refine any_take (i := 4) (d := 61) (oi := _) (v := undef) rfl rfl (by kernel_rfl) (by kernel_rfl) (by kernel_rfl) (fun _ _ _ h => h) (Or.inr ⟨by rfl, rfl⟩) ?_
          try simp only [Act.put, setIfInBounds_toArray, set_cons_zero, set_cons_succ]
          refine any_take (i := 5) (d := 62) (oi := _) (v := undef) rfl rfl (by kernel_rfl) (by kernel_rfl) (by kernel_rfl) (fun _ _ _ h => h) (Or.inr ⟨by rfl, rfl⟩) ?_
          try simp only [Act.put, setIfInBounds_toArray, set_cons_zero, set_cons_succ]
          refine any_take (i := 6) (d := 63) (oi := _) (v := undef) rfl rfl (by kernel_rfl) (by kernel_rfl) (by kernel_rfl) (fun _ _ _ h => h) (Or.inr ⟨by rfl, rfl⟩) ?_
          try simp only [Act.put, setIfInBounds_toArray, set_cons_zero, set_cons_succ]
          refine any_take (i := 7) (d := 64) (oi := _) (v := undef) rfl rfl (by kernel_rfl) (by kernel_rfl) (by kernel_rfl) (fun _ _ _ h => h) (Or.inr ⟨by rfl, rfl⟩) ?_
          try simp only [Act.put, setIfInBounds_toArray, set_cons_zero, set_cons_succ]
          refine any_take (i := 8) (d := 65) (oi := _) (v := undef) rfl rfl (by kernel_rfl) (by kernel_rfl) (by kernel_rfl) (fun _ _ _ h => h) (Or.inr ⟨by rfl, rfl⟩) ?_
          try simp only [Act.put, setIfInBounds_toArray, set_cons_zero, set_cons_succ]
          refine any_take (i := 9) (d := 66) (oi := _) (v := undef) rfl rfl (by kernel_rfl) (by kernel_rfl) (by kernel_rfl) (fun _ _ _ h => h) (Or.inr ⟨by rfl, rfl⟩) ?_
          try simp only [Act.put, setIfInBounds_toArray, set_cons_zero, set_cons_succ]
          refine any_take (i := 10) (d := 67) (oi := _) (v := undef) rfl rfl (by kernel_rfl) (by kernel_rfl) (by kernel_rfl) (fun _ _ _ h => h) (Or.inr ⟨by rfl, rfl⟩) ?_
          try simp only [Act.put, setIfInBounds_toArray, set_cons_zero, set_cons_succ]
          refine any_take (i := 11) (d := 68) (oi := _) (v := ?_) rfl rfl (by kernel_rfl) (by kernel_rfl) (by kernel_rfl) (fun _ _ _ h => h) (Or.inl ⟨by rfl, ?_⟩) ?_
          rotate_left
          · intro W; first | (go_simp; done) | (go_simp; with_reducible rfl)
          try simp only [Act.put, setIfInBounds_toArray, set_cons_zero, set_cons_succ]
          refine ⟨by kernel_rfl, ?_⟩
          go_wp2_with fail
          go_meet
          exact ⟨_, rfl, GG, hide (Ext.drew _)⟩
        · have d0 : decide ((0 : Int) < (k : Int)) = true := by rw [decide_eq_true_iff]; omega
          have GG : Hid ((minK Z (k - 1) == maxK Z (k - 1)) = (decide (0 < k) && po)) := hide (by rw [ZO.out h0]; simp [h0])
          have HMI := hide (fun (W : World) (he : Ext w1' W) => minI_any (M3.out.at_.ext he) h0 (by omega))
          have HMA := hide (fun (W : World) (he : Ext w1' W) => maxI_any (M3.out.at_.ext he) h0 (by omega))
          have e0 : decide (0 < k) = true := by rw [decide_eq_true_iff]; exact h0
          clear h0
          have hS0 : w1'.cell? ⟨gf, 3, none⟩ = some (.slice zA k zc) := x3
          refine wp_region_held_drew (S := fun W => W.cell? ⟨gf, 3, none⟩ = some (.slice zA k zc)) (by kernel_rfl) ((Ext.drew _).cell hS0) (fun hS => ?_)
          refine held_take (i := 0) (d := 57) (oi := _) (v := ?_) rfl rfl (by kernel_rfl) (by kernel_rfl) (by kernel_rfl) (fun _ _ _ h => h) (Or.inl ⟨by rfl, ?_⟩) hS ?_
          rotate_left
          · intro W hW; first | (go_simp; done) | (go_simp; with_reducible rfl)
          try simp only [Act.put, setIfInBounds_toArray, set_cons_zero, set_cons_succ]
          refine held_take (i := 1) (d := 58) (oi := _) (v := ?_) rfl rfl (by kernel_rfl) (by kernel_rfl) (by kernel_rfl) (fun _ _ _ h => h) (Or.inl ⟨by rfl, ?_⟩) hS ?_
          rotate_left
          · intro W hW; first | (go_simp; done) | (go_simp; with_reducible rfl)
          try simp only [Act.put, setIfInBounds_toArray, set_cons_zero, set_cons_succ]
          refine held_take (i := 2) (d := 59) (oi := _) (v := ?_) rfl rfl (by kernel_rfl) (by kernel_rfl) (by kernel_rfl) (fun _ _ _ h => h) (Or.inl ⟨by rfl, ?_⟩) hS ?_
          rotate_left
          · intro W hW; first | (go_simp; done) | (go_simp; with_reducible rfl)
          try simp only [Act.put, setIfInBounds_toArray, set_cons_zero, set_cons_succ]
          refine held_take (i := 3) (d := 60) (oi := _) (v := ?_) rfl rfl (by kernel_rfl) (by kernel_rfl) (by kernel_rfl) (fun _ _ _ h => h) (Or.inl ⟨by rfl, ?_⟩) hS ?_
          rotate_left
          · intro W hW; first | (go_simp; done) | (go_simp; with_reducible rfl)
          try simp only [Act.put, setIfInBounds_toArray, set_cons_zero, set_cons_succ]
          refine held_take (i := 4) (d := 61) (oi := _) (v := ?_) rfl rfl (by kernel_rfl) (by kernel_rfl) (by kernel_rfl) (fun _ _ _ h => h) (Or.inl ⟨by rfl, ?_⟩) hS ?_
          rotate_left
          · intro W hW; first | (go_simp; done) | (go_simp; with_reducible rfl)
          try simp only [Act.put, setIfInBounds_toArray, set_cons_zero, set_cons_succ]
          refine held_take (i := 5) (d := 62) (oi := _) (v := ?_) rfl rfl (by kernel_rfl) (by kernel_rfl) (by kernel_rfl) (fun _ _ _ h => h) (Or.inl ⟨by rfl, ?_⟩) hS ?_
          rotate_left
          · intro W hW; first | (go_simp; done) | (go_simp; with_reducible rfl)
          try simp only [Act.put, setIfInBounds_toArray, set_cons_zero, set_cons_succ]
          refine held_take (i := 7) (d := 64) (oi := _) (v := ?_) rfl rfl (by kernel_rfl) (by kernel_rfl) (by kernel_rfl) (fun _ _ _ h => h) (Or.inl ⟨by rfl, ?_⟩) hS ?_
          rotate_left
          · intro W hW; first | (go_simp; done) | (go_simp; with_reducible rfl)
          try simp only [Act.put, setIfInBounds_toArray, set_cons_zero, set_cons_succ]
          refine held_take (i := 8) (d := 65) (oi := _) (v := ?_) rfl rfl (by kernel_rfl) (by kernel_rfl) (by kernel_rfl) (fun _ _ _ h => h) (Or.inl ⟨by rfl, ?_⟩) hS ?_
          rotate_left
          · intro W hW; first | (go_simp; done) | (go_simp; with_reducible rfl)
          try simp only [Act.put, setIfInBounds_toArray, set_cons_zero, set_cons_succ]
          refine wpAnyH_ready (rs := [6]) (by kernel_rfl) (by simp) (AllReadyH.cons rfl (fun K hK => ?_) AllReadyH.nil)
          go_simp
          go_at_call 74
          with_reducible refine (HMI.out _ (Ext.drew _)).mono ?_
          rintro e w5 ⟨rfl, rfl⟩
          refine hK.out _ _ hS (fun hS => ?_)
          clear hK K
          try simp only [Act.put, setIfInBounds_toArray, set_cons_zero, set_cons_succ]
          refine wpAnyH_ready (rs := [9]) (by kernel_rfl) (by simp) (AllReadyH.cons rfl (fun K hK => ?_) AllReadyH.nil)
          go_simp
          go_at_call 75
          with_reducible refine (HMA.out _ (Ext.drew _)).mono ?_
          rintro e w5 ⟨rfl, rfl⟩
          refine hK.out _ _ hS (fun hS => ?_)
          clear hK K
          try simp only [Act.put, setIfInBounds_toArray, set_cons_zero, set_cons_succ]
          refine held_take (i := 10) (d := 67) (oi := _) (v := ?_) rfl rfl (by kernel_rfl) (by kernel_rfl) (by kernel_rfl) (fun _ _ _ h => h) (Or.inl ⟨by rfl, ?_⟩) hS ?_
          rotate_left
          · intro W hW; first | (go_simp; done) | (go_simp; with_reducible rfl)
          try simp only [Act.put, setIfInBounds_toArray, set_cons_zero, set_cons_succ]
          refine held_take (i := 11) (d := 68) (oi := _) (v := ?_) rfl rfl (by kernel_rfl) (by kernel_rfl) (by kernel_rfl) (fun _ _ _ h => h) (Or.inl ⟨by rfl, ?_⟩) hS ?_
          rotate_left
          · intro W hW; first | (go_simp; done) | (go_simp; with_reducible rfl)
          try simp only [Act.put, setIfInBounds_toArray, set_cons_zero, set_cons_succ]
          refine wpAnyH_done (by kernel_rfl) ?_ _
          go_wp2_with fail
          go_meet
          exact ⟨_, rfl, GG, hide (Ext.drew _)⟩
      case rest =>
      obtain ⟨go, rfl, HGO, HX1⟩ := hcut
      obtain ⟨w2, hw2⟩ : ∃ w2, w2 = wc := ⟨_, rfl⟩
      subst hw2
      have B2 := hide (B1.out.ext HX1.out)
      have T2 := hide (T1.out.trans (Tw.of_ext HX1.out gf none))
      have C1 : Hid (LA w2 w0.heap.size 2 e2 sA S.length sc S) := hide ⟨M1.out.at_.ext HX1.out, M1.out.lo⟩
      have C2 : Hid (LA w2 w0.heap.size 2 e2 hA R.length hc R) := hide ⟨M2.out.at_.ext HX1.out, M2.out.lo⟩
      have C3 : Hid (LA w2 w0.heap.size 1 e64 zA k zc Z) := hide ⟨M3.out.at_.ext HX1.out, M3.out.lo⟩
      have C4 : Hid (LA w2 w0.heap.size 1 e64 (some ⟨kg, 0, none⟩) Ks.length kc Ks) := hide ⟨M4.out.at_.ext HX1.out, M4.out.lo⟩
      clear x3 B1 T1 M1 M2 M3 M4 HX1 ZO
      have x3 : w2.cell? ⟨gf, 3, none⟩ = some (.slice zA k zc) := B2.out.cell 3
      have f3 := B2.out.frozen 3
      go_upto_if 68 with (fail)
      go_cut [68] (fun _ wx => ∃ qA qn qc, Hid (Blk wx gf 82 #[.int .i64 st, .slice sA S.length sc, .slice hA R.length hc, .slice qA qn qc, .slice none 0 0, .slice none 0 0, .slice pA q pc]) ∧ Hid (LA wx w0.heap.size 1 e64 qA qn qc T.sizes) ∧ Hid (Tw w2 wx gf none))
      case first =>
        cases go with
        | true =>
          have h1 := HGO.out
          have h2 : 0 < k ∧ po = true := by
            have := h1.symm
            simpa using this
          have zc1 := C3.out.at_.le
          have z1 : (1 : Int) ≤ (zc : Int) := by omega
          have z2 : 1 ≤ zc := by omega
          have TX : Hid (T.sizes = Z.take 1) := hide (by rw [TS.out, h2.2, if_pos rfl])
          have LX : Hid (LA w2 w0.heap.size 1 e64 zA 1 1 (Z.take 1)) := hide ⟨(C3.out.at_.upto (by omega)).capped (by omega), C3.out.lo⟩
          clear h1 h2 TS HGO
          go_wp2_with fail
          go_meet
          exact ⟨zA, 1, 1, hide (B2.out.set_ 3 _), hide (by rw [TX.out]; exact LX.out.tw (Tw.set_ _ _ _ _ _) hgl), hide (Tw.set_ _ _ _ _ _)⟩
        | false =>
          have TX : Hid (T.sizes = Z) := hide (by
            have h1 := HGO.out
            rw [TS.out]
            rcases Nat.eq_zero_or_pos k with h0 | h0
            · rw [ZL.out h0]; cases po <;> rfl
            · have : po = false := by
                have := h1.symm
                simpa [h0] using this
              rw [this, if_neg (by simp)])
          clear TS HGO
          go_wp2_with fail
          go_meet
          exact ⟨zA, _, zc, B2, hide (by rw [TX.out]; exact C3.out), hide (Tw.refl _ _ _)⟩
      case rest =>
      obtain ⟨qA, qn, qc, B3, M5, T3⟩ := hcut
      obtain ⟨w3, hw3⟩ : ∃ w3, w3 = wc := ⟨_, rfl⟩
      subst hw3
      have g4 : w3.cell? ⟨gf, 4, none⟩ = some (.slice none 0 0) := B3.out.cell 4
      have f5 := B3.out.frozen 4
      have D1 := hide (C1.out.tw T3.out hgl)
      have D2 := hide (C2.out.tw T3.out hgl)
      have D4 := hide (C4.out.tw T3.out hgl)
      have T4 := hide (T2.out.trans T3.out)
      clear x3 f3 TS C1 C2 C3 C4 T2 T3 B2 ZL
      go_upto_if 77 with (fail)
      go_cut [77] (fun _ wx => Hid (CmB w0 wx gf st T (.slice pA q pc)))
      case first =>
        cases pa with
        | true =>
          have d1 : decide ((Ks.length : Int) < (k : Int)) = false := by
            rw [decide_eq_false_iff_not]; intro h; have := KT.out.1 (by omega); cases this
          have d2 : ¬ Ks.length < k := by
            intro h; have := KT.out.1 (by omega); cases this
          have KX : Hid (T.keys = []) := hide (by rw [TK.out, if_pos rfl])
          clear TK KT
          go_wp2_with fail
          go_meet
          exact hide ⟨_, _, _, _, _, _, _, _, _, none, 0, 0, B3.out, by rw [TT1.out]; exact D1.out, by rw [TT2.out]; exact D2.out, M5.out, by rw [KX.out]; exact LA.nil _ _ _ _, by rw [TN.out]; simp, T4.out⟩
        | false =>
          have d1 : decide ((Ks.length : Int) < (k : Int)) = true := by
            rw [decide_eq_true_iff]; have := KT.out.2 rfl; omega
          have d2 : Ks.length < k := by
            have := KT.out.2 rfl; omega
          have KX : Hid (T.keys = Ks) := hide (by rw [TK.out, if_neg (by simp)])
          clear TK KT
          go_wp2_with fail
          go_meet
          exact hide ⟨_, _, _, _, _, _, _, _, _, _, _, _, B3.out.set_ 4 _, by rw [TT1.out]; exact D1.out.tw (Tw.set_ _ _ _ _ _) hgl, by rw [TT2.out]; exact D2.out.tw (Tw.set_ _ _ _ _ _) hgl, M5.out.tw (Tw.set_ _ _ _ _ _) hgl, by rw [KX.out]; exact D4.out.tw (Tw.set_ _ _ _ _ _) hgl, by rw [TN.out]; simp, T4.out.trans (Tw.set_ _ _ _ _ _)⟩
      case rest =>
      obtain ⟨w4, hw4⟩ : ∃ w4, w4 = wc := ⟨_, rfl⟩
      subst hw4
      clear D1 D2 D4 T4 B3 M5 TT1 TT2 TN TK KT g4 f5
      obtain ⟨sA, sn, sc, hA, hn', hc, zA, zn, zc, kA, kn, kc, b3, m1, m2, m3, m4, nk, t3⟩ := hcut.out
      have B3 := hide b3
      have T3 := hide t3
      have NK := hide nk
      have N1 := hide m1
      have N2 := hide m2
      have N3 := hide m3
      have N4 := hide m4
      have hgl3 : gf < w4.heap.size := b3.lt
      clear b3 m1 m2 m3 m4 nk t3 hcut HAB H HSM
      go_wp2_with fail
      go_loopw [82] (fun ri wr => ∃ (i : Nat) (v : Value), i ≤ m ∧ ri = .int .i64 i ∧ Hid (Own wr w4.heap.size 150 2 e2 v (chK ch i)) ∧ Hid (Blk wr gf 82 #[.int .i64 st, .slice sA sn sc, .slice hA hn' hc, .slice zA zn zc, .slice kA kn kc, v, .slice pA q pc]) ∧ Hid (Tw w4 wr gf none)) (fun ri _ => m - (intOf ri).toNat)
      case atStart => exact ⟨0, _, by omega, rfl, hide (Own.nil _ _ _ _ _), B3, hide (Tw.refl _ _ _)⟩
      case round =>
        obtain ⟨i, v, hi, rfl, HO, HB, HT⟩ := hrel
        by_cases hlt : i < m
        · obtain ⟨b, off, rfl, _⟩ := HC.out.addr (by omega)
          have a0 := (HCM.out _ (T3.out.trans HT.out)).num hlt
          have GX : Hid (chK ch (i + 1) = if i = 0 ∨ ch.getD i 0 ≠ ch.getD (i - 1) 0 then chK ch i ++ [((i : Int) + 1, ch.getD i 0)] else chK ch i) := hide rfl
          have GT := hide (chK_test ch i)
          have hcl := chK_len ch i
          have S1 : Hid ((chK ch i).length + 1 ≤ maxLen) := hide (by unfold maxLen; omega)
          have S2 : Hid (((chK ch i).length + 1) * 16 ≤ 140737488355328) := hide (by omega)
          obtain ⟨A5, c5, rfl, hat⟩ := HO.out.at_ len_e2
          have HP0 := hide (fun h0 => HO.out.where2 h0)
          generalize ch.getD i 0 = x at *
          generalize ch.getD (i - 1) 0 = y at *
          generalize chK ch i = CK at *
          have HAT := hide hat
          generalize hcn : CK.length = cn at *
          have HCN := hide hcn.symm
          have i1 : (i : Int) < (m : Int) := by omega
          have i0 : (0 : Int) ≤ (i : Int) := by omega
          have i8 : IntKind.i64.wrap ((i : Int) + 1) = (i : Int) + 1 := by rw [IntKind.wrap_i64]; omega
          have x5 : wr.cell? ⟨gf, 5, none⟩ = some (.slice A5 cn c5) := HB.out.cell 5
          clear hat hcn
          go_upto_region 20 with (fail)
          go_cut [102] (fun s wx => ∃ go : Bool, s = .bool go ∧ Hid (go = decide (cn = 0 ∨ (CK.getD (cn - 1) (0, 0)).2 ≠ x)) ∧ Hid (Own wx w4.heap.size 150 2 e2 (.slice A5 cn c5) CK) ∧ Hid (Blk wx gf 82 #[.int .i64 st, .slice sA sn sc, .slice hA hn' hc, .slice zA zn zc, .slice kA kn kc, .slice A5 cn c5, .slice pA q pc]) ∧ Hid (Tw w4 wx gf none))
          case first =>
            rcases Nat.eq_zero_or_pos cn with h0 | h0
            · have d0 : ((cn : Int) == 0) = true := by rw [beq_iff_eq]; omega
              have GG : Hid (decide (cn = 0 ∨ (CK.getD (cn - 1) (0, 0)).2 ≠ x) = true) := hide (by simp [h0])
              clear h0 a0
              go_wp2_with fail
              go_meet
              exact ⟨_, rfl, hide GG.out.symm, HO, HB, HT⟩
            · have d0 : ((cn : Int) == 0) = false := by rw [beq_eq_false_iff_ne]; omega
              obtain ⟨g, hg0, _, _⟩ := HP0.out h0
              have hg2 : A5 = some ⟨g, 0, none⟩ := by first | exact hg0 | (injection hg0)
              subst hg2
              obtain ⟨mm, hmm⟩ : ∃ mm, mm = cn - 1 := ⟨_, rfl⟩
              have hmn : mm < cn := by omega
              obtain ⟨b1, b2⟩ := HAT.out.pair hmn
              simp only [Nat.zero_add] at b1 b2
              have j1 : IntKind.i64.wrap ((cn : Int) - 1) = (mm : Int) := by rw [IntKind.wrap_i64]; have := HCN.out; omega
              have GG : Hid (decide (cn = 0 ∨ (CK.getD (cn - 1) (0, 0)).2 ≠ x) = ((CK.getD mm (0, 0)).2 != x)) := hide (by
                have : ¬ cn = 0 := by omega
                rw [← hmm]
                simp [this, bne, Bool.beq_eq_decide_eq])
              have j4 : (mm : Int) < (cn : Int) := by omega
              have j3 : (0 : Int) ≤ (mm : Int) := by omega
              clear h0 hmm hmn hg0 a0
              generalize (CK.getD mm (0, 0)).2 = z at *
              generalize (CK.getD mm (0, 0)).1 = z' at *
              go_wp2_with fail
              go_meet
              exact ⟨_, rfl, hide GG.out.symm, HO, HB, HT⟩
          case rest =>
          obtain ⟨go, rfl, HGO, QO, QB, QT⟩ := hcut
          obtain ⟨w5, hw5⟩ : ∃ w5, w5 = wc := ⟨_, rfl⟩
          subst hw5
          have HGE : Hid (chK ch (i + 1) = if go = true then CK ++ [((i : Int) + 1, x)] else CK) := hide (by
            rw [GX.out]
            have h1 := GT.out
            have h2 := HGO.out
            by_cases hc1 : (i = 0 ∨ x ≠ y)
            · rw [if_pos hc1, h2, if_pos (decide_eq_true (h1.2 hc1))]
            · rw [if_neg hc1, h2, if_neg (by rw [decide_eq_false (fun h => hc1 (h1.1 h))]; simp)])
          clear HO HB HT a0 x5 GX GT HGO HP0 HAT
          cases go with
          | false =>
            have HE : Hid (chK ch (i + 1) = CK) := hide (by rw [HGE.out, if_neg (by simp)])
            clear HGE
            go_wp2_with fail
            exact ⟨⟨i + 1, _, by omega, by go_num, by rw [HE.out]; exact QO, QB, QT⟩, by simp [intOf]; omega⟩
          | true =>
            have HE : Hid (chK ch (i + 1) = CK ++ [((i : Int) + 1, x)]) := hide (by rw [HGE.out, if_pos rfl])
            clear HGE
            have x5 : w5.cell? ⟨gf, 5, none⟩ = some (.slice A5 cn c5) := QB.out.cell 5
            have x0 : w5.cell? ⟨gf, 0, none⟩ = some (.int .i64 st) := QB.out.cell 0
            have HLT := QO.out.lt
            have S1' : Hid (CK.length + 1 ≤ maxLen) := hide (by rw [← HCN.out]; exact S1.out)
            have S2' : Hid ((CK.length + 1) * 16 ≤ 140737488355328) := hide (by rw [← HCN.out]; exact S2.out)
            have S3 : Hid (w4.heap.size ≤ (w5.alloc (.cells #[.int .i64 ((i : Int) + 1), .int .i64 x] 150)).heap.size) := hide (by have := QT.out.size; rw [World.size_alloc]; omega)
            go_wp2_with (at_builtin; refine wpList_append_at _ rfl (.tmp 104) (.tmp 109) 80 rfl w4.heap.size 150 j0_ _ 16 Try.underlying80 hj0 hy0 hy1 hy2 rfl (by omega) len_e2 one_e2 _ _ (by rfl) (QO.out.ext (Ext.alloc _ _)) (some ⟨w5.heap.size, 0, none⟩) 1 1 [((i : Int) + 1, x)] (by rfl) (At.pair1 w5 ((i : Int) + 1) x _) S1'.out S2'.out S3.out ?_; intro v7 w7 o7 g7 _ r7; obtain ⟨A7, c7, hv7, _⟩ := o7.at_ len_e2; rw [List.length_append, List.length_singleton] at hv7; subst hv7; have F7 := hide ((QB.out.ext (Ext.alloc _ _)).grown g7 (fun e => by have := (HLT _ e.symm).1; omega)); have O7 := hide o7; have G7 := hide g7; have x7 : w7.cell? ⟨gf, 5, none⟩ = some (.slice A5 cn c5) := F7.out.cell 5; have z7 := F7.out.frozen 5; clear o7 g7 r7)
            have hlo := O7.out.lt
            have F8 : Hid (Blk (w7.setCell ⟨gf, 5, none⟩ (.slice A7 (CK.length + 1) c7)) gf 82 #[.int .i64 st, .slice sA sn sc, .slice hA hn' hc, .slice zA zn zc, .slice kA kn kc, .slice A7 (CK.length + 1) c7, .slice pA q pc]) := hide (F7.out.set_ 5 _)
            have O8 := hide (O7.out.tw (Tw.set_ w7 gf 5 (.slice A7 (CK.length + 1) c7) none) (fun e => by have := (hlo _ e).1; omega) (fun g _ e => by cases e))
            have T8 : Hid (Tw w4 (w7.setCell ⟨gf, 5, none⟩ (.slice A7 (CK.length + 1) c7)) gf none) := hide (((QT.out.trans (Tw.of_ext (Ext.alloc _ _) _ _)).row G7.out (fun g e => .inl (HLT g e).1)).trans (Tw.set_ _ _ _ _ _))
            clear F7 G7 O7 x7 z7 x0 x5
            exact ⟨⟨i + 1, _, by omega, by go_num, hide (by rw [HE.out]; exact O8.out), F8, T8⟩, by simp [intOf]; omega⟩
        · obtain rfl : i = m := by omega
          obtain ⟨w5, hw5⟩ : ∃ w5, w5 = wr := ⟨_, rfl⟩
          subst hw5
          obtain ⟨cA, cc, rfl, L5⟩ := LA.own HO.out len_e2
          have M5 := hide (L5.more (T3.out.size))
          have U1 := hide (N1.out.tw HT.out hgl)
          have U2 := hide (N2.out.tw HT.out hgl)
          have U3 := hide (N3.out.tw HT.out hgl)
          have U4 := hide (N4.out.tw HT.out hgl)
          have HTT := hide (T3.out.trans HT.out)
          have R8 := hide (HTT.out.blk R0.out (by have := HGF.out; omega) (by simp))
          have HEX : Hid (Ext w w5) := hide (tw_ext' E0.out HTT.out (by have := HGF.out; omega))
          have F8 := HB
          have V6w : Hid (At w5 1 e64 pA q pc pl) := hide (LP.out.1.tw HTT.out (fun a ha => ⟨by have := (LP.out.2 a ha).2; omega, by simp⟩))
          clear hlt hi HO L5 N1 N2 N3 N4 HB
          have k0 : w5.cell? ⟨gf, 0, none⟩ = some (.int .i64 st) := F8.out.cell 0
          have k1 : w5.cell? ⟨gf, 1, none⟩ = some (.slice sA sn sc) := F8.out.cell 1
          have k2 : w5.cell? ⟨gf, 2, none⟩ = some (.slice hA hn' hc) := F8.out.cell 2
          have k3 : w5.cell? ⟨gf, 3, none⟩ = some (.slice zA zn zc) := F8.out.cell 3
          have k4 : w5.cell? ⟨gf, 4, none⟩ = some (.slice kA kn kc) := F8.out.cell 4
          have k5 : w5.cell? ⟨gf, 5, none⟩ = some (.slice cA (chK ch i).length cc) := F8.out.cell 5
          have k6 : w5.cell? ⟨gf, 6, none⟩ = some (.slice pA q pc) := F8.out.cell 6
          have z0 := R8.out.frozen 0
          have y0 : w5.cell? ⟨w.heap.size, 0, none⟩ = some (.int .i64 0) := R8.out.cell 0
          have z1 := R8.out.frozen 1
          have y1 : w5.cell? ⟨w.heap.size, 1, none⟩ = some (.slice none 0 0) := R8.out.cell 1
          have z2 := R8.out.frozen 2
          have y2 : w5.cell? ⟨w.heap.size, 2, none⟩ = some (.slice none 0 0) := R8.out.cell 2
          have z3 := R8.out.frozen 3
          have y3 : w5.cell? ⟨w.heap.size, 3, none⟩ = some (.slice none 0 0) := R8.out.cell 3
          have z4 := R8.out.frozen 4
          have y4 : w5.cell? ⟨w.heap.size, 4, none⟩ = some (.slice none 0 0) := R8.out.cell 4
          have z5 := R8.out.frozen 5
          have y5 : w5.cell? ⟨w.heap.size, 5, none⟩ = some (.slice none 0 0) := R8.out.cell 5
          have z6 := R8.out.frozen 6
          have y6 : w5.cell? ⟨w.heap.size, 6, none⟩ = some (.slice none 0 0) := R8.out.cell 6
          go_wp2_with fail
          refine gen_bod fun w9 h9 => ?_
          have T9 : Hid (Tw w5 w9 w.heap.size none) := hide (by rw [h9]; have q7 := Tw.set7 w5 w.heap.size (.int .i64 st) (.slice sA sn sc) (.slice hA hn' hc) (.slice zA zn zc) (.slice kA kn kc) (.slice cA (chK ch i).length cc) (.slice pA q pc); exact q7)
          have R9 : Hid (Blk w9 w.heap.size 82 #[.int .i64 st, .slice sA sn sc, .slice hA hn' hc, .slice zA zn zc, .slice kA kn kc, .slice cA (chK ch i).length cc, .slice pA q pc]) := hide (by rw [h9]; have q7 := (((((((R8.out.set_ 0 (.int .i64 st)).set_ 1 (.slice sA sn sc)).set_ 2 (.slice hA hn' hc)).set_ 3 (.slice zA zn zc)).set_ 4 (.slice kA kn kc)).set_ 5 (.slice cA (chK ch i).length cc)).set_ 6 (.slice pA q pc)); exact q7)
          clear h9 k0 z0 y0 k1 z1 y1 k2 z2 y2 k3 z3 y3 k4 z4 y4 k5 z5 y5 k6 z6 y6
          refine bodyPost_ret (v := .agg #[.int .i64 st, .slice sA sn sc, .slice hA hn' hc, .slice zA zn zc, .slice kA kn kc, .slice cA (chK ch i).length cc, .slice pA q pc]) (res_table Try.results49 (by rfl) R9.out) rfl ?_
          have hw5 := HEX.out.size
          have hgfw := HGF.out
          have hw0 := E0.out.size
          have key : ∀ {α : Type} {sz : Nat} {enc : α → List Value} {X : Option Addr} {k' c' : Nat} {L : List α}, LA w5 w0.heap.size sz enc X k' c' L → LA w9 w0.heap.size sz enc X k' c' L := fun hL => hL.tw T9.out (by omega)
          have V1 := key U1.out
          have V2 := key U2.out
          have V3 := key U3.out
          have V4 := key U4.out
          have V5 : LA w9 w0.heap.size 2 e2 cA (chK ch i).length cc T.chunks := by rw [TC.out]; exact key M5.out
          have V6 : At w9 1 e64 pA q pc T.places := by rw [TP.out]; exact V6w.out.tw T9.out (fun a ha => ⟨by have := (LP.out.2 a ha).1; omega, by simp⟩)
          have hst2 : st = T.start := HST.out.symm
          have hfin : TbB w9 w.heap.size (.agg #[.int .i64 st, .slice sA sn sc, .slice hA hn' hc, .slice zA zn zc, .slice kA kn kc, .slice cA (chK ch i).length cc, .slice pA q pc]) T := ⟨sA, sn, sc, hA, hn', hc, zA, zn, zc, kA, kn, kc, cA, (chK ch i).length, cc, pA, q, pc, by rw [hst2], ⟨V1.at_, V2.at_, V3.at_, V4.at_, NK.out, V5.at_, V6⟩, (fun a ha => by rcases ha with h | h | h | h | h | h <;> first | (have := V1.lo a h; omega) | (have := V2.lo a h; omega) | (have := V3.lo a h; omega) | (have := V4.lo a h; omega) | (have := V5.lo a h; omega) | (have := (LP.out.2 a h).1; omega))⟩
          have hfin2 : Ext w w9 := tw_ext' HEX.out T9.out (Nat.le_refl _)
          rw [← HTE.out] at hfin
          exact ⟨_, rfl, hfin, hfin2⟩
end Go.Proofs.Ytkbmgakehlmcnaa
