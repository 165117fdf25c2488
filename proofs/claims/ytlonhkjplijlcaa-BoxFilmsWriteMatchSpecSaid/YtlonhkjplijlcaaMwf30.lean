/- Walk: compact (reference). Conditions as stated. -/
import Derived.Test.YtlonhkjplijlcaaMwf29
namespace Go.Proofs.Ytlonhkjplijlcaa
open Go.RowKit
/-- What a round's grown reads. -/
def SGr (gf j b q : Nat) (v : Value) (x : Int) (w' : World) : Prop := w'.cell? ⟨gf, j, none⟩ = some v ∧ w'.cell? ⟨b, q, none⟩ = some (.int .i64 x)
theorem SGr.ext {gf j b q : Nat} {v : Value} {x : Int} {w w' : World} (h : SGr gf j b q v x w) (he : Ext w w') : SGr gf j b q v x w' := ⟨he.cell h.1, he.cell h.2⟩
/-- The table made so far, in memory, and the keys' row is not nil. -/
def CmR (w0 W : World) (gf : Nat) (l : List Smp) (k : Nat) (vs vh vz vk : Value) : Prop :=
  CmI w0 W gf #[.int .i64 0, vs, vh, vz, .slice none 0 0, .slice none 0 0, .slice none 0 0] vs vh vz vk (rowK Smp.step l k) (rowK Smp.shift l k) (szK l k) (keyK l k) none #[] ∧ vk ≠ .slice none 0 0
/-- The cells of a round's sample. -/
def SmpC (W : World) (b q p : Nat) (y1 y2 y3 : Int) (y4 : Bool) (y0 : Int) : Prop :=
  W.cell? ⟨b, q + 1, none⟩ = some (.int .i64 y1) ∧ W.cell? ⟨b, q + 2, none⟩ = some (.int .i64 y2) ∧ W.cell? ⟨b, q + 3, none⟩ = some (.int .i64 y3) ∧ W.cell? ⟨b, q + 4, none⟩ = some (.bool y4) ∧ W.cell? ⟨b, p + 3, none⟩ = some (.int .i64 y0)
/-- The table behind the samples. -/
def CmA (w0 W : World) (gf : Nat) (st : Int) (T : Tab) : Prop :=
  ∃ sA sn sc hA hn hc zA zn zc kA kn kc, Blk W gf 73 #[.int .i64 st, .slice sA sn sc, .slice hA hn hc, .slice zA zn zc, .slice kA kn kc, .slice none 0 0, .slice none 0 0] ∧
    LA W w0.heap.size 2 e2 sA sn sc T.steps ∧ LA W w0.heap.size 2 e2 hA hn hc T.shifts ∧ LA W w0.heap.size 1 e64 zA zn zc T.sizes ∧ LA W w0.heap.size 1 e64 kA kn kc T.keys ∧ (kA = none ↔ T.nok = true) ∧ Tw w0 W gf none
theorem LA.own {α : Type} {W : World} {base sz : Nat} {t : TypeId} {enc : α → List Value} {v : Value} {l : List α} (h : Own W base t sz enc v l) (hsz : ∀ x, (enc x).length = sz) : ∃ A c, v = .slice A l.length c ∧ LA W base sz enc A l.length c l := by
  obtain ⟨A, c, hv, ha⟩ := h.at_ hsz
  exact ⟨A, c, hv, ha, fun a hq => (h.lt a.block (by rw [hv, hq]; rfl)).1⟩
/-- An own row that is not nil has an address. -/
theorem own_some {α : Type} {W : World} {base sz : Nat} {t : TypeId} {enc : α → List Value} {v : Value} {l : List α} (h : Own W base t sz enc v l) (hn : v ≠ .slice none 0 0) : ∃ g c, v = .slice (some ⟨g, 0, none⟩) l.length c := by
  rcases h.2 with ⟨h1, _⟩ | ⟨g, cap, cur, hv, _⟩
  · exact absurd h1 hn
  · exact ⟨g, cap, hv⟩
set_option linter.unusedVariables false in
set_option linter.unusedSimpArgs false in
set_option maxRecDepth 100000 in
set_option maxHeartbeats 16000000 in
theorem refCompact_in {A : Option Addr} {n c : Nat} {l : List Smp} {B : Option Addr} {m d : Nat} {ch : List Int} {D : Option Addr} {q r : Nat} {pl : List Int} {w : World} (h : At w 5 eSm A n c l) (hc : At w 1 e64 B m d ch) (hp : At w 1 e64 D q r pl) (hn : n ≤ 5000) (hm : m ≤ 5000) (hq : q ≤ 5000) :
    Calls Try.prog 50 #[.slice A n c, .slice B m d, .slice D q r] w (fun e w' => ∃ v, e = .returned v ∧ TbB w' w.heap.size v (cmpT l ch pl) ∧ Ext w w') := by
  have H := hide h
  have HC := hide hc
  have HP := hide hp
  have HL := hide h.len
  have HCL := hide hc.len
  have HPL := hide hp.len
  have HAB := hide (fun hn => h.blk_lt len_eSm (by omega) hn)
  have HCB := hide (fun hn => hc.blk_lt len_e64 (by omega) hn)
  have HPB := hide (fun hn => hp.blk_lt len_e64 (by omega) hn)
  obtain ⟨i0_, hi0, hz0, hz1, hz2⟩ := info_parts Try.info3
  obtain ⟨j0_, hj0, hy0, hy1, hy2⟩ := info_parts Try.info134
  clear h hc hp
  go_enter Try.func50, Try.ntmps50
  go_upto_region 3 with (fail)
  refine gen_wpC fun w0 h0 => ?_
  obtain ⟨gf, hgf⟩ : ∃ gf, gf = w.heap.size + 1 := ⟨_, rfl⟩
  rw [← hgf]
  have E0 : Hid (Ext w w0) := hide (by rw [h0]; exact Ext.trans (Ext.alloc _ _) (Ext.alloc _ _))
  have R0 : Hid (Blk w0 w.heap.size 73 #[.int .i64 0, .slice none 0 0, .slice none 0 0, .slice none 0 0, .slice none 0 0, .slice none 0 0, .slice none 0 0]) := hide (by rw [h0]; exact (Blk.new _ _ _).alloc _)
  have T0 : Hid (Blk w0 gf 73 #[.int .i64 0, .slice none 0 0, .slice none 0 0, .slice none 0 0, .slice none 0 0, .slice none 0 0, .slice none 0 0]) := hide (by
    rw [h0, hgf]
    have := Blk.new (w.alloc (.cells #[.int .i64 0, .slice none 0 0, .slice none 0 0, .slice none 0 0, .slice none 0 0, .slice none 0 0, .slice none 0 0] 73)) 73 #[.int .i64 0, .slice none 0 0, .slice none 0 0, .slice none 0 0, .slice none 0 0, .slice none 0 0, .slice none 0 0]
    rw [World.size_alloc] at this
    exact this)
  have HGF := hide hgf
  have hgl : gf < w0.heap.size := T0.out.lt
  have HSM := hide (fun (W : World) (hT : Tw w0 W gf none) => (H.out.ext E0.out).twn hT (fun h1 a ha => by have := HAB.out h1 a ha; have := HGF.out; omega))
  have HCM := hide (fun (W : World) (hT : Tw w0 W gf none) => (HC.out.ext E0.out).twn hT (fun h1 a ha => by have := HCB.out h1 a ha; have := HGF.out; omega))
  have HPM := hide (fun (W : World) (hT : Tw w0 W gf none) => (HP.out.ext E0.out).twn hT (fun h1 a ha => by have := HPB.out h1 a ha; have := HGF.out; omega))
  have I0 : Hid (CmR w0 (w0.alloc (.cells #[] 3)) gf l 0 (.slice none 0 0) (.slice none 0 0) (.slice none 0 0) (.slice (some ⟨w0.heap.size, 0, none⟩) 0 0)) := hide (by
    have ok : Own (w0.alloc (.cells #[] 3)) w0.heap.size 3 1 e64 (.slice (some ⟨w0.heap.size, 0, none⟩) 0 0) [] := ⟨by simp, .inr ⟨w0.heap.size, 0, #[], rfl, Nat.le_refl _, heap_alloc_new w0 _, Nat.le_refl _, by unfold maxLen; omega, rfl, rfl⟩⟩
    refine ⟨⟨hgl, T0.out.alloc _, Own.nil _ _ _ _ _, Own.nil _ _ _ _ _, Own.nil _ _ _ _ _, ok, ?_, (fun b hb => by cases hb), Tw.of_ext (Ext.alloc _ _) _ _⟩, by simp⟩
    intro i j hij b hi hj
    match i, hi with
    | 3, hi => match j, hj with
      | 3, _ => exact hij rfl
      | j + 4, hj => match j, hj with
        | 0, hj => cases hj
        | j + 1, hj => simp at hj
      | 0, hj => cases hj
      | 1, hj => cases hj
      | 2, hj => cases hj
    | 0, hi => cases hi
    | 1, hi => cases hi
    | 2, hi => cases hi
    | 4, hi => cases hi
    | i + 5, hi => simp at hi)
  clear h0 hgf
  go_wp2_with fail
  go_loopw [8, 9, 10, 11] (fun ra ro rk ri wr => ∃ (k : Nat) (vs vh vz vk : Value), k ≤ n ∧ ri = .int .i64 k ∧ ra = .bool (allK l k) ∧ ro = .bool (oneK l k) ∧ vk = rk ∧ Hid (CmR w0 wr gf l k vs vh vz vk)) (fun _ _ _ ri _ => n - (intOf ri).toNat)
  case atStart => exact ⟨0, _, _, _, _, by omega, rfl, rfl, rfl, rfl, I0⟩
  case round =>
    obtain ⟨k, vs, vh, vz, vk, hk, rfl, rfl, rfl, hvk, HI⟩ := hrel
    subst hvk
    by_cases hlt : k < n
    · obtain ⟨b, off, rfl, _⟩ := H.out.addr (by omega)
      have HCE := hide (fun (W : World) (hT : Tw w0 W gf none) => (⟨(HSM.out W hT).cellK hlt dS 1 _ rfl, (HSM.out W hT).cellK hlt dS 2 _ rfl, (HSM.out W hT).cellK hlt dS 3 _ rfl, (HSM.out W hT).cellK hlt dS 4 _ rfl, by have := (HSM.out W hT).cellK (k := 0) (by omega) dS 3 _ rfl; simpa using this⟩ : SmpC W b (off + k * 5) off (l.getD k dS).step (l.getD k dS).shift (l.getD k dS).size (l.getD k dS).key (l.getD 0 dS).size))
      have U1 : Hid (rowK Smp.step l (k + 1) = addR (rowK Smp.step l k) (l.getD k dS).step) := hide rfl
      have U2 : Hid (rowK Smp.shift l (k + 1) = addR (rowK Smp.shift l k) (l.getD k dS).shift) := hide rfl
      have U3 : Hid (szK l (k + 1) = szK l k ++ [(l.getD k dS).size]) := hide rfl
      have U4 : Hid (keyK l (k + 1) = if (l.getD k dS).key = true then keyK l k ++ [(k : Int) + 1] else keyK l k) := hide rfl
      have U5 : Hid (allK l (k + 1) = (allK l k && (l.getD k dS).key)) := hide rfl
      have U6 : Hid (oneK l (k + 1) = (oneK l k && ((l.getD k dS).size == (l.getD 0 dS).size))) := hide (by rw [oneK, Bool.beq_eq_decide_eq])
      have HG1 := hide (fun (W : World) (ho : Own W w0.heap.size 119 2 e2 vs (rowK Smp.step l k)) (hb : w0.heap.size ≤ W.heap.size) => refGrown_any (x := (l.getD k dS).step) ho hb (by have := (rowK_bd Smp.step l k).1; omega) (rowK_last Smp.step l (by omega)))
      have HG2 := hide (fun (W : World) (ho : Own W w0.heap.size 119 2 e2 vh (rowK Smp.shift l k)) (hb : w0.heap.size ≤ W.heap.size) => refGrown_any (x := (l.getD k dS).shift) ho hb (by have := (rowK_bd Smp.shift l k).1; omega) (rowK_last Smp.shift l (by omega)))
      have hI := HI.out.1
      have HVK := hide HI.out.2
      have hzl : (szK l k).length ≤ 5000 := by rw [szK_len]; omega
      have hkl : (keyK l k).length ≤ 5000 := by have := keyK_len l k; omega
      have S1 : Hid ((szK l k).length + 1 ≤ maxLen) := hide (by unfold maxLen; omega)
      have S2 : Hid (((szK l k).length + 1) * 8 ≤ 140737488355328) := hide (by omega)
      have K1 : Hid ((keyK l k).length + 1 ≤ maxLen) := hide (by unfold maxLen; omega)
      have K2 : Hid (((keyK l k).length + 1) * 8 ≤ 140737488355328) := hide (by omega)
      clear hzl hkl HI
      generalize (l.getD k dS).step = y1 at *
      generalize (l.getD k dS).shift = y2 at *
      generalize (l.getD k dS).size = y3 at *
      generalize (l.getD k dS).key = y4 at *
      generalize (l.getD 0 dS).size = y0 at *
      generalize rowK Smp.step l k = S at *
      generalize rowK Smp.shift l k = R at *
      generalize szK l k = Z at *
      generalize keyK l k = Ks at *
      generalize allK l k = pa at *
      generalize oneK l k = po at *
      have i1 : (k : Int) < (n : Int) := by omega
      have i0 : (0 : Int) ≤ (k : Int) := by omega
      have i8 : IntKind.i64.wrap ((k : Int) + 1) = (k : Int) + 1 := by rw [IntKind.wrap_i64]; omega
      obtain ⟨a1, a2, a3, a4, a5⟩ := HCE.out _ hI.tw
      have x1 : wr.cell? ⟨gf, 1, none⟩ = some vs := hI.tab.cell 1
      have HI := hide hI
      clear hI
      go_upto_region 7 with (fail)
      have hS : SGr gf 1 b (off + k * 5 + 1) vs y1 wr := ⟨x1, a1⟩
      have hS0 := hS.ext (Ext.drew wr)
      clear hS
      refine region_z (S := SGr gf 1 b (off + k * 5 + 1) vs y1) 8 (by kernel_rfl) ?_
      refine AnyZ.takeE (i := 0) (d := 20) (oi := _) (v := ?_) rfl rfl rfl (by kernel_rfl) (by kernel_rfl) (by kernel_rfl) (by kernel_rfl) (by kernel_rfl) (by kernel_rfl) (fun _ _ _ h => h) (Or.inl ⟨by rfl, ?_⟩) hS0 ?_
      rotate_left
      · intro W hW; obtain ⟨s1, s2⟩ := hW; first | (go_simp; done) | (go_simp; with_reducible rfl)
      try simp only [Act.put, List.setIfInBounds_toArray, List.set_cons_zero, List.set_cons_succ]
      refine AnyZ.takeE (i := 1) (d := 21) (oi := _) (v := ?_) rfl rfl rfl (by kernel_rfl) (by kernel_rfl) (by kernel_rfl) (by kernel_rfl) (by kernel_rfl) (by kernel_rfl) (fun _ _ _ h => h) (Or.inl ⟨by rfl, ?_⟩) hS0 ?_
      rotate_left
      · intro W hW; obtain ⟨s1, s2⟩ := hW; first | (go_simp; done) | (go_simp; with_reducible rfl)
      try simp only [Act.put, List.setIfInBounds_toArray, List.set_cons_zero, List.set_cons_succ]
      refine AnyZ.takeE (i := 2) (d := 22) (oi := _) (v := ?_) rfl rfl rfl (by kernel_rfl) (by kernel_rfl) (by kernel_rfl) (by kernel_rfl) (by kernel_rfl) (by kernel_rfl) (fun _ _ _ h => h) (Or.inl ⟨by rfl, ?_⟩) hS0 ?_
      rotate_left
      · intro W hW; obtain ⟨s1, s2⟩ := hW; first | (go_simp; done) | (go_simp; with_reducible rfl)
      try simp only [Act.put, List.setIfInBounds_toArray, List.set_cons_zero, List.set_cons_succ]
      refine AnyZ.takeE (i := 3) (d := 23) (oi := _) (v := ?_) rfl rfl rfl (by kernel_rfl) (by kernel_rfl) (by kernel_rfl) (by kernel_rfl) (by kernel_rfl) (by kernel_rfl) (fun _ _ _ h => h) (Or.inl ⟨by rfl, ?_⟩) hS0 ?_
      rotate_left
      · intro W hW; obtain ⟨s1, s2⟩ := hW; first | (go_simp; done) | (go_simp; with_reducible rfl)
      try simp only [Act.put, List.setIfInBounds_toArray, List.set_cons_zero, List.set_cons_succ]
      refine AnyZ.takeE (i := 4) (d := 24) (oi := _) (v := ?_) rfl rfl rfl (by kernel_rfl) (by kernel_rfl) (by kernel_rfl) (by kernel_rfl) (by kernel_rfl) (by kernel_rfl) (fun _ _ _ h => h) (Or.inl ⟨by rfl, ?_⟩) hS0 ?_
      rotate_left
      · intro W hW; obtain ⟨s1, s2⟩ := hW; first | (go_simp; done) | (go_simp; with_reducible rfl)
      try simp only [Act.put, List.setIfInBounds_toArray, List.set_cons_zero, List.set_cons_succ]
      refine AnyZ.takeE (i := 5) (d := 25) (oi := _) (v := ?_) rfl rfl rfl (by kernel_rfl) (by kernel_rfl) (by kernel_rfl) (by kernel_rfl) (by kernel_rfl) (by kernel_rfl) (fun _ _ _ h => h) (Or.inl ⟨by rfl, ?_⟩) hS0 ?_
      rotate_left
      · intro W hW; obtain ⟨s1, s2⟩ := hW; first | (go_simp; done) | (go_simp; with_reducible rfl)
      try simp only [Act.put, List.setIfInBounds_toArray, List.set_cons_zero, List.set_cons_succ]
      refine AnyZ.takeE (i := 6) (d := 26) (oi := _) (v := ?_) rfl rfl rfl (by kernel_rfl) (by kernel_rfl) (by kernel_rfl) (by kernel_rfl) (by kernel_rfl) (by kernel_rfl) (fun _ _ _ h => h) (Or.inl ⟨by rfl, ?_⟩) hS0 ?_
      rotate_left
      · intro W hW; obtain ⟨s1, s2⟩ := hW; first | (go_simp; done) | (go_simp; with_reducible rfl)
      try simp only [Act.put, List.setIfInBounds_toArray, List.set_cons_zero, List.set_cons_succ]
      refine AnyZ.step (i := 7) rfl (by kernel_rfl) (fun K hK => ?_)
      go_simp
      go_at_call 76
      with_reducible refine (HG1.out _ (HI.out.ext' (Ext.drew _)).s (HI.out.ext' (Ext.drew _)).tw.size).mono ?_
      rintro e w7 ⟨v7, rfl, o7, g7⟩
      obtain ⟨A7, c7, hv7, _⟩ := o7.at_ len_e2
      subst hv7
      have I7 := hide ((HI.out.ext' (Ext.drew _)).row_s o7 g7)
      clear o7 g7
      refine hK.out _ _ (fun h => ?_) ?_
      · exact ⟨I7.out.tab.cell 1, (HCE.out _ I7.out.tw).1⟩
      clear hK K
      try simp only [Act.put, List.setIfInBounds_toArray, List.set_cons_zero, List.set_cons_succ]
      have x7 : w7.cell? ⟨gf, 1, none⟩ = some vs := I7.out.tab.cell 1
      have z7 := I7.out.tab.frozen 1
      refine AnyZ.step (i := 8) rfl (by kernel_rfl) (fun K hK => ?_)
      go_simp
      refine hK.out _ _ (fun h => ?_) ?_
      · exact absurd (h.symm.trans (show _ = true by kernel_rfl)) (by simp)
      clear hK K
      try simp only [Act.put, List.setIfInBounds_toArray, List.set_cons_zero, List.set_cons_succ]
      refine AnyZ.step (i := 9) rfl (by kernel_rfl) (fun K hK => ?_)
      go_simp
      refine hK.out _ _ (fun h => ?_) ?_
      · exact absurd (h.symm.trans (show _ = true by kernel_rfl)) (by simp)
      clear hK K
      refine AnyZ.done (by kernel_rfl) ?_ _
      have I8 := hide (I7.out.set_ 1 (.slice A7 (addR S y1).length c7))
      clear I7 x7 z7 x1 a1 a2 a3 a4 a5 hS0
      go_upto_region 8 with (fail)
      refine gen_wpC fun w8 h8 => ?_
      obtain ⟨v7, J8⟩ : ∃ v7, Hid (CmI w0 w8 gf #[.int .i64 0, v7, vh, vz, .slice none 0 0, .slice none 0 0, .slice none 0 0] v7 vh vz vk (addR S y1) R Z Ks none #[]) := ⟨_, hide (by rw [h8]; exact I8.out)⟩
      clear h8 I8
      obtain ⟨a1, a2, a3, a4, a5⟩ := HCE.out _ J8.out.tw
      have x1 : w8.cell? ⟨gf, 2, none⟩ = some vh := J8.out.tab.cell 2
      have hS : SGr gf 2 b (off + k * 5 + 2) vh y2 w8 := ⟨x1, a2⟩
      have hS0 := hS.ext (Ext.drew w8)
      clear hS
      refine region_z (S := SGr gf 2 b (off + k * 5 + 2) vh y2) 8 (by kernel_rfl) ?_
      refine AnyZ.takeE (i := 0) (d := 29) (oi := _) (v := ?_) rfl rfl rfl (by kernel_rfl) (by kernel_rfl) (by kernel_rfl) (by kernel_rfl) (by kernel_rfl) (by kernel_rfl) (fun _ _ _ h => h) (Or.inl ⟨by rfl, ?_⟩) hS0 ?_
      rotate_left
      · intro W hW; obtain ⟨s1, s2⟩ := hW; first | (go_simp; done) | (go_simp; with_reducible rfl)
      try simp only [Act.put, List.setIfInBounds_toArray, List.set_cons_zero, List.set_cons_succ]
      refine AnyZ.takeE (i := 1) (d := 30) (oi := _) (v := ?_) rfl rfl rfl (by kernel_rfl) (by kernel_rfl) (by kernel_rfl) (by kernel_rfl) (by kernel_rfl) (by kernel_rfl) (fun _ _ _ h => h) (Or.inl ⟨by rfl, ?_⟩) hS0 ?_
      rotate_left
      · intro W hW; obtain ⟨s1, s2⟩ := hW; first | (go_simp; done) | (go_simp; with_reducible rfl)
      try simp only [Act.put, List.setIfInBounds_toArray, List.set_cons_zero, List.set_cons_succ]
      refine AnyZ.takeE (i := 2) (d := 31) (oi := _) (v := ?_) rfl rfl rfl (by kernel_rfl) (by kernel_rfl) (by kernel_rfl) (by kernel_rfl) (by kernel_rfl) (by kernel_rfl) (fun _ _ _ h => h) (Or.inl ⟨by rfl, ?_⟩) hS0 ?_
      rotate_left
      · intro W hW; obtain ⟨s1, s2⟩ := hW; first | (go_simp; done) | (go_simp; with_reducible rfl)
      try simp only [Act.put, List.setIfInBounds_toArray, List.set_cons_zero, List.set_cons_succ]
      refine AnyZ.takeE (i := 3) (d := 32) (oi := _) (v := ?_) rfl rfl rfl (by kernel_rfl) (by kernel_rfl) (by kernel_rfl) (by kernel_rfl) (by kernel_rfl) (by kernel_rfl) (fun _ _ _ h => h) (Or.inl ⟨by rfl, ?_⟩) hS0 ?_
      rotate_left
      · intro W hW; obtain ⟨s1, s2⟩ := hW; first | (go_simp; done) | (go_simp; with_reducible rfl)
      try simp only [Act.put, List.setIfInBounds_toArray, List.set_cons_zero, List.set_cons_succ]
      refine AnyZ.takeE (i := 4) (d := 33) (oi := _) (v := ?_) rfl rfl rfl (by kernel_rfl) (by kernel_rfl) (by kernel_rfl) (by kernel_rfl) (by kernel_rfl) (by kernel_rfl) (fun _ _ _ h => h) (Or.inl ⟨by rfl, ?_⟩) hS0 ?_
      rotate_left
      · intro W hW; obtain ⟨s1, s2⟩ := hW; first | (go_simp; done) | (go_simp; with_reducible rfl)
      try simp only [Act.put, List.setIfInBounds_toArray, List.set_cons_zero, List.set_cons_succ]
      refine AnyZ.takeE (i := 5) (d := 34) (oi := _) (v := ?_) rfl rfl rfl (by kernel_rfl) (by kernel_rfl) (by kernel_rfl) (by kernel_rfl) (by kernel_rfl) (by kernel_rfl) (fun _ _ _ h => h) (Or.inl ⟨by rfl, ?_⟩) hS0 ?_
      rotate_left
      · intro W hW; obtain ⟨s1, s2⟩ := hW; first | (go_simp; done) | (go_simp; with_reducible rfl)
      try simp only [Act.put, List.setIfInBounds_toArray, List.set_cons_zero, List.set_cons_succ]
      refine AnyZ.takeE (i := 6) (d := 35) (oi := _) (v := ?_) rfl rfl rfl (by kernel_rfl) (by kernel_rfl) (by kernel_rfl) (by kernel_rfl) (by kernel_rfl) (by kernel_rfl) (fun _ _ _ h => h) (Or.inl ⟨by rfl, ?_⟩) hS0 ?_
      rotate_left
      · intro W hW; obtain ⟨s1, s2⟩ := hW; first | (go_simp; done) | (go_simp; with_reducible rfl)
      try simp only [Act.put, List.setIfInBounds_toArray, List.set_cons_zero, List.set_cons_succ]
      refine AnyZ.step (i := 7) rfl (by kernel_rfl) (fun K hK => ?_)
      go_simp
      go_at_call 76
      with_reducible refine (HG2.out _ (J8.out.ext' (Ext.drew _)).h (J8.out.ext' (Ext.drew _)).tw.size).mono ?_
      rintro e w9 ⟨v9, rfl, o9, g9⟩
      obtain ⟨A9, c9, hv9, _⟩ := o9.at_ len_e2
      subst hv9
      have I9 := hide ((J8.out.ext' (Ext.drew _)).row_h o9 g9)
      clear o9 g9
      refine hK.out _ _ (fun h => ?_) ?_
      · exact ⟨I9.out.tab.cell 2, (HCE.out _ I9.out.tw).2.1⟩
      clear hK K
      try simp only [Act.put, List.setIfInBounds_toArray, List.set_cons_zero, List.set_cons_succ]
      have x9 : w9.cell? ⟨gf, 2, none⟩ = some vh := I9.out.tab.cell 2
      have z9 := I9.out.tab.frozen 2
      refine AnyZ.step (i := 8) rfl (by kernel_rfl) (fun K hK => ?_)
      go_simp
      refine hK.out _ _ (fun h => ?_) ?_
      · exact absurd (h.symm.trans (show _ = true by kernel_rfl)) (by simp)
      clear hK K
      try simp only [Act.put, List.setIfInBounds_toArray, List.set_cons_zero, List.set_cons_succ]
      refine AnyZ.step (i := 9) rfl (by kernel_rfl) (fun K hK => ?_)
      go_simp
      refine hK.out _ _ (fun h => ?_) ?_
      · exact absurd (h.symm.trans (show _ = true by kernel_rfl)) (by simp)
      clear hK K
      refine AnyZ.done (by kernel_rfl) ?_ _
      have I10 := hide (I9.out.set_ 2 (.slice A9 (addR R y2).length c9))
      clear I9 x9 z9 x1 a1 a2 a3 a4 a5 hS0
      go_upto_region 9 with (fail)
      refine gen_wpC fun w10 h10 => ?_
      obtain ⟨v9, J10⟩ : ∃ v9, Hid (CmI w0 w10 gf #[.int .i64 0, v7, v9, vz, .slice none 0 0, .slice none 0 0, .slice none 0 0] v7 v9 vz vk (addR S y1) (addR R y2) Z Ks none #[]) := ⟨_, hide (by rw [h10]; exact I10.out)⟩
      clear h10 I10
      obtain ⟨a1, a2, a3, a4, a5⟩ := HCE.out _ J10.out.tw
      have x1 : w10.cell? ⟨gf, 3, none⟩ = some vz := J10.out.tab.cell 3
      have hS : SGr gf 3 b (off + k * 5 + 3) vz y3 w10 := ⟨x1, a3⟩
      have hS0 := hS.ext (Ext.drew w10)
      clear hS
      refine region_z (S := SGr gf 3 b (off + k * 5 + 3) vz y3) 9 (by kernel_rfl) ?_
      refine AnyZ.takeE (i := 0) (d := 38) (oi := _) (v := ?_) rfl rfl rfl (by kernel_rfl) (by kernel_rfl) (by kernel_rfl) (by kernel_rfl) (by kernel_rfl) (by kernel_rfl) (fun _ _ _ h => h) (Or.inl ⟨by rfl, ?_⟩) hS0 ?_
      rotate_left
      · intro W hW; obtain ⟨s1, s2⟩ := hW; first | (go_simp; done) | (go_simp; with_reducible rfl)
      try simp only [Act.put, List.setIfInBounds_toArray, List.set_cons_zero, List.set_cons_succ]
      refine AnyZ.takeE (i := 1) (d := 39) (oi := _) (v := ?_) rfl rfl rfl (by kernel_rfl) (by kernel_rfl) (by kernel_rfl) (by kernel_rfl) (by kernel_rfl) (by kernel_rfl) (fun _ _ _ h => h) (Or.inl ⟨by rfl, ?_⟩) hS0 ?_
      rotate_left
      · intro W hW; obtain ⟨s1, s2⟩ := hW; first | (go_simp; done) | (go_simp; with_reducible rfl)
      try simp only [Act.put, List.setIfInBounds_toArray, List.set_cons_zero, List.set_cons_succ]
      refine AnyZ.takeE (i := 2) (d := 40) (oi := _) (v := ?_) rfl rfl rfl (by kernel_rfl) (by kernel_rfl) (by kernel_rfl) (by kernel_rfl) (by kernel_rfl) (by kernel_rfl) (fun _ _ _ h => h) (Or.inl ⟨by rfl, ?_⟩) hS0 ?_
      rotate_left
      · intro W hW; obtain ⟨s1, s2⟩ := hW; first | (go_simp; done) | (go_simp; with_reducible rfl)
      try simp only [Act.put, List.setIfInBounds_toArray, List.set_cons_zero, List.set_cons_succ]
      refine AnyZ.takeE (i := 3) (d := 41) (oi := _) (v := ?_) rfl rfl rfl (by kernel_rfl) (by kernel_rfl) (by kernel_rfl) (by kernel_rfl) (by kernel_rfl) (by kernel_rfl) (fun _ _ _ h => h) (Or.inl ⟨by rfl, ?_⟩) hS0 ?_
      rotate_left
      · intro W hW; obtain ⟨s1, s2⟩ := hW; first | (go_simp; done) | (go_simp; with_reducible rfl)
      try simp only [Act.put, List.setIfInBounds_toArray, List.set_cons_zero, List.set_cons_succ]
      refine AnyZ.takeE (i := 4) (d := 42) (oi := _) (v := ?_) rfl rfl rfl (by kernel_rfl) (by kernel_rfl) (by kernel_rfl) (by kernel_rfl) (by kernel_rfl) (by kernel_rfl) (fun _ _ _ h => h) (Or.inl ⟨by rfl, ?_⟩) hS0 ?_
      rotate_left
      · intro W hW; obtain ⟨s1, s2⟩ := hW; first | (go_simp; done) | (go_simp; with_reducible rfl)
      try simp only [Act.put, List.setIfInBounds_toArray, List.set_cons_zero, List.set_cons_succ]
      refine AnyZ.takeE (i := 5) (d := 43) (oi := _) (v := ?_) rfl rfl rfl (by kernel_rfl) (by kernel_rfl) (by kernel_rfl) (by kernel_rfl) (by kernel_rfl) (by kernel_rfl) (fun _ _ _ h => h) (Or.inl ⟨by rfl, ?_⟩) hS0 ?_
      rotate_left
      · intro W hW; obtain ⟨s1, s2⟩ := hW; first | (go_simp; done) | (go_simp; with_reducible rfl)
      try simp only [Act.put, List.setIfInBounds_toArray, List.set_cons_zero, List.set_cons_succ]
      refine AnyZ.takeE (i := 6) (d := 44) (oi := _) (v := ?_) rfl rfl rfl (by kernel_rfl) (by kernel_rfl) (by kernel_rfl) (by kernel_rfl) (by kernel_rfl) (by kernel_rfl) (fun _ _ _ h => h) (Or.inl ⟨by rfl, ?_⟩) hS0 ?_
      rotate_left
      · intro W hW; obtain ⟨s1, s2⟩ := hW; first | (go_simp; done) | (go_simp; with_reducible rfl)
      try simp only [Act.put, List.setIfInBounds_toArray, List.set_cons_zero, List.set_cons_succ]
      refine AnyZ.step (i := 7) rfl (by kernel_rfl) (fun K hK => ?_)
      go_simp
      refine hK.out _ _ (fun h => ?_) ?_
      · exact hS0.ext (Ext.alloc _ _)
      clear hK K
      have J11 := hide (J10.out.ext' (Ext.trans (Ext.drew _) (Ext.alloc (World.drew w10) (.cells #[.int .i64 y3] 3))))
      have J12 := hide J11.out.z
      have J13 : Hid (w0.heap.size ≤ ((World.drew w10).alloc (.cells #[.int .i64 y3] 3)).heap.size) := hide J11.out.tw.size
      refine AnyZ.step (i := 8) rfl (by kernel_rfl) (fun K hK => ?_)
      refine step_append_at rfl _ _ 70 rfl w0.heap.size 3 i0_ _ 8 Try.underlying70 hi0 hz0 hz1 hz2 rfl (by omega) len_e64 one_e64 _ _ (by rfl) J12.out (some ⟨w10.heap.size, 0, none⟩) 1 1 [y3] (by simp [Act.eval]) (At.new1 (World.drew w10) y3 _ rfl _) S1.out S2.out J13.out ?_
      intro v11 w11 o11 g11 _ r11
      obtain ⟨A11, c11, hv11, _⟩ := o11.at_ len_e64
      rw [List.length_append, List.length_singleton] at hv11
      subst hv11
      have I11 := hide (J11.out.row_z o11 (Grw.of g11 r11))
      clear o11 g11 r11
      refine hK.out _ _ (fun h => ?_) ?_
      · exact ⟨I11.out.tab.cell 3, (HCE.out _ I11.out.tw).2.2.1⟩
      clear hK K
      try simp only [Act.put, List.setIfInBounds_toArray, List.set_cons_zero, List.set_cons_succ]
      have x7 : w11.cell? ⟨gf, 3, none⟩ = some vz := I11.out.tab.cell 3
      have z7 := I11.out.tab.frozen 3
      refine AnyZ.step (i := 9) rfl (by kernel_rfl) (fun K hK => ?_)
      go_simp
      refine hK.out _ _ (fun h => ?_) ?_
      · exact absurd (h.symm.trans (show _ = true by kernel_rfl)) (by simp)
      clear hK K
      try simp only [Act.put, List.setIfInBounds_toArray, List.set_cons_zero, List.set_cons_succ]
      refine AnyZ.step (i := 10) rfl (by kernel_rfl) (fun K hK => ?_)
      go_simp
      refine hK.out _ _ (fun h => ?_) ?_
      · exact absurd (h.symm.trans (show _ = true by kernel_rfl)) (by simp)
      clear hK K
      refine AnyZ.done (by kernel_rfl) ?_ _
      have I12 := hide (I11.out.set_ 3 (.slice A11 (Z.length + 1) c11))
      clear I11 x7 z7 x1 a1 a2 a3 a4 a5 hS0 J10 J11 J12 J13 S1 S2
      go_upto_region 10 with (fail)
      refine gen_wpC fun w12 h12 => ?_
      obtain ⟨v11, J14⟩ : ∃ v11, Hid (CmI w0 w12 gf #[.int .i64 0, v7, v9, v11, .slice none 0 0, .slice none 0 0, .slice none 0 0] v7 v9 v11 vk (addR S y1) (addR R y2) (Z ++ [y3]) Ks none #[]) := ⟨_, hide (by rw [h12]; exact I12.out)⟩
      clear h12 I12
      obtain ⟨a1, a2, a3, a4, a5⟩ := HCE.out _ J14.out.tw
      go_cut [8, 9] (fun ra ro wx => ra = .bool (pa && y4) ∧ ro = .bool (po && (y3 == y0)) ∧ Hid (CmI w0 wx gf #[.int .i64 0, v7, v9, v11, .slice none 0 0, .slice none 0 0, .slice none 0 0] v7 v9 v11 vk (addR S y1) (addR R y2) (Z ++ [y3]) Ks none #[]))
      case first =>
        have n1 : (0 : Int) < (n : Int) := by omega
        cases pa <;> cases po <;> (first | (go_wp2_with fail; go_meet; exact ⟨by simp, by simp, hide (J14.out.ext' (Ext.drew _))⟩) | (go_region; go_wp2_with fail; go_meet; exact ⟨by simp, by simp, hide (J14.out.ext' (Ext.drew _))⟩))
      case rest =>
      obtain ⟨rfl, rfl, J15⟩ := hcut
      obtain ⟨w15, hw15⟩ : ∃ w15, w15 = wc := ⟨_, rfl⟩
      subst hw15
      clear J14 a1 a2 a3 a4 a5
      obtain ⟨_, _, _, a4, _⟩ := HCE.out _ J15.out.tw
      cases y4 with
      | false =>
        go_wp2_with fail
        exact ⟨⟨k + 1, v7, v9, v11, _, by omega, by go_num, by simp [U5.out], by rw [U6.out], rfl, hide ⟨by rw [U1.out, U2.out, U3.out, U4.out, if_neg (by simp)]; exact J15.out, HVK.out⟩⟩, by simp [intOf]; omega⟩
      | true =>
        have J16 := hide (J15.out.ext' (Ext.alloc w15 (.cells #[.int .i64 ((k : Int) + 1)] 3)))
        have J17 := hide J16.out.k
        have J18 : Hid (w0.heap.size ≤ (w15.alloc (.cells #[.int .i64 ((k : Int) + 1)] 3)).heap.size) := hide J16.out.tw.size
        go_wp2_with (at_builtin; refine wpList_append_at _ rfl (.tmp 74) (.tmp 77) 70 rfl w0.heap.size 3 i0_ _ 8 Try.underlying70 hi0 hz0 hz1 hz2 rfl (by omega) len_e64 one_e64 _ _ (by rfl) J17.out (some ⟨w15.heap.size, 0, none⟩) 1 1 [(k : Int) + 1] (by rfl) (At.new1 w15 ((k : Int) + 1) _ rfl _) K1.out K2.out J18.out ?_; intro v16 w16 o16 g16 n16 r16; have I16 := hide (J16.out.row_k o16 (Grw.of g16 r16)); have N16 := hide n16; clear o16 g16 n16 r16)
        exact ⟨⟨k + 1, v7, v9, v11, _, by omega, by go_num, by simp [U5.out], by rw [U6.out], rfl, hide ⟨by rw [U1.out, U2.out, U3.out, U4.out, if_pos rfl]; exact I16.out, fun e => HVK.out (N16.out.1 e).1⟩⟩, by simp [intOf]; omega⟩
    · obtain rfl : k = n := by omega
      obtain ⟨w1, hw1⟩ : ∃ w1, w1 = wr := ⟨_, rfl⟩
      subst hw1
      have hI := HI.out.1
      obtain ⟨kg, kc, rfl⟩ := own_some hI.k HI.out.2
      obtain ⟨sA, sc, rfl, L1⟩ := LA.own hI.s len_e2
      obtain ⟨hA, hc, rfl, L2⟩ := LA.own hI.h len_e2
      obtain ⟨zA, zc, rfl, L3⟩ := LA.own hI.z len_e64
      have L4 : LA w1 w0.heap.size 1 e64 (some ⟨kg, 0, none⟩) (keyK l k).length kc (keyK l k) := ⟨hI.k.atS len_e64, fun a ha => (hI.k.lt a.block (by rw [ha]; rfl)).1⟩
      have M1 := hide L1
      have M2 := hide L2
      have M3 := hide L3
      have M4 := hide L4
      have B1 := hide hI.tab
      have T1 := hide hI.tw
      have ZL : Hid ((szK l k).length = k) := hide (szK_len l k)
      have TS : Hid ((cmpT l ch pl).sizes = if oneK l k = true then (szK l k).take 1 else szK l k) := hide (by unfold cmpT; rw [HL.out])
      have TK : Hid ((cmpT l ch pl).keys = if allK l k = true then [] else keyK l k) := hide (by unfold cmpT; rw [HL.out])
      have TN : Hid ((cmpT l ch pl).nok = allK l k) := hide (by unfold cmpT; rw [HL.out])
      have TT1 : Hid ((cmpT l ch pl).steps = rowK Smp.step l k) := hide (by unfold cmpT; rw [HL.out])
      have TT2 : Hid ((cmpT l ch pl).shifts = rowK Smp.shift l k) := hide (by unfold cmpT; rw [HL.out])
      have TT0 : Hid ((cmpT l ch pl).start = if 0 < k then (l.getD 0 dS).time else 0) := hide (by unfold cmpT; rw [HL.out])
      have TC : Hid ((cmpT l ch pl).chunks = chK ch m) := hide (by unfold cmpT; rw [HCL.out])
      have TP : Hid ((cmpT l ch pl).places = pl) := hide rfl
      obtain ⟨T, hTE⟩ : ∃ T, cmpT l ch pl = T := ⟨_, rfl⟩
      rw [hTE] at TS TK TN TT1 TT2 TT0 TC TP
      have HTE := hide hTE
      clear hTE
      generalize rowK Smp.step l k = S at *
      generalize rowK Smp.shift l k = R at *
      generalize szK l k = Z at *
      generalize keyK l k = Ks at *
      have x0 : w1.cell? ⟨gf, 0, none⟩ = some (.int .i64 0) := B1.out.cell 0
      have x3 : w1.cell? ⟨gf, 3, none⟩ = some (.slice zA Z.length zc) := B1.out.cell 3
      have f1 := B1.out.frozen 0
      have f3 := B1.out.frozen 3
      have FZ := hide (fun (W : World) (cs : Array Value) (hb : Blk W gf 73 cs) (i : Nat) => hb.frozen i)
      clear hI HI L1 L2 L3 L4 hlt hk
      go_upto_if 81 with (fail)
      go_cut [9] (fun _ wx => ∃ qA qn qc, Hid (Blk wx gf 73 #[.int .i64 T.start, .slice sA S.length sc, .slice hA R.length hc, .slice qA qn qc, .slice none 0 0, .slice none 0 0, .slice none 0 0]) ∧ Hid (LA wx w0.heap.size 1 e64 qA qn qc T.sizes) ∧ Hid (Tw w1 wx gf none))
      case first =>
        by_cases h0 : 0 < k
        · obtain ⟨b, off, rfl, _⟩ := H.out.addr h0
          have a0 := (HSM.out _ T1.out).cellK h0 dS 0 _ rfl
          simp only [Nat.zero_mul, Nat.add_zero] at a0
          have n1 : (0 : Int) < (k : Int) := by omega
          have ES : Hid (T.start = (l.getD 0 dS).time) := hide (by rw [TT0.out, if_pos h0])
          generalize (l.getD 0 dS).time = y at *
          have Q1 : Hid (∀ u, Blk ((w1.setCell ⟨gf, 0, none⟩ (.int .i64 y)).setCell ⟨gf, 3, none⟩ u) gf 73 #[.int .i64 y, .slice sA S.length sc, .slice hA R.length hc, u, .slice none 0 0, .slice none 0 0, .slice none 0 0]) := hide (fun u => (B1.out.set_ 0 (.int .i64 y)).set_ 3 u)
          have Q2 : Hid (Blk (w1.setCell ⟨gf, 0, none⟩ (.int .i64 y)) gf 73 #[.int .i64 y, .slice sA S.length sc, .slice hA R.length hc, .slice zA Z.length zc, .slice none 0 0, .slice none 0 0, .slice none 0 0]) := hide (B1.out.set_ 0 (.int .i64 y))
          have x4 : (w1.setCell ⟨gf, 0, none⟩ (.int .i64 y)).cell? ⟨gf, 3, none⟩ = some (.slice zA Z.length zc) := Q2.out.cell 3
          have f4 := Q2.out.frozen 3
          have zc1 := M3.out.at_.le
          have zl := ZL.out
          have z1 : (1 : Int) ≤ (zc : Int) := by omega
          have z2 : 1 ≤ zc := by omega
          clear h0
          cases ho : oneK l k with
          | true =>
            have TX : Hid (T.sizes = Z.take 1) := hide (by rw [TS.out, ho, if_pos rfl])
            clear ho TS
            go_wp2_with fail
            go_meet
            exact ⟨zA, 1, zc, hide (by rw [ES.out]; exact Q1.out _), hide (by rw [TX.out]; exact LA.tw ⟨M3.out.at_.upto (by omega), M3.out.lo⟩ ((Tw.set_ _ _ _ _ _).trans (Tw.set_ _ _ _ _ _)) hgl), hide ((Tw.set_ _ _ _ _ _).trans (Tw.set_ _ _ _ _ _))⟩
          | false =>
            have TX : Hid (T.sizes = Z) := hide (by rw [TS.out, ho, if_neg (by simp)])
            clear ho TS
            go_wp2_with fail
            go_meet
            exact ⟨zA, _, zc, hide (by rw [ES.out]; exact Q2.out), hide (by rw [TX.out]; exact M3.out.tw (Tw.set_ _ _ _ _ _) hgl), hide (Tw.set_ _ _ _ _ _)⟩
        · obtain rfl : k = 0 := by omega
          have ES : Hid (T.start = 0) := hide (by rw [TT0.out, if_neg (by omega)])
          go_wp2_with fail
          go_meet
          exact ⟨zA, _, zc, hide (by rw [ES.out]; exact B1.out), hide (by
            have e : Z = [] := List.eq_nil_of_length_eq_zero ZL.out
            have h := M3.out
            rw [e] at h
            rw [TS.out, e]
            cases oneK l 0 <;> simpa using h), hide (Tw.refl _ _ _)⟩
      case rest =>
      obtain ⟨qA, qn, qc, B2, M5, T2⟩ := hcut
      obtain ⟨w2, hw2⟩ : ∃ w2, w2 = wc := ⟨_, rfl⟩
      subst hw2
      have g4 : w2.cell? ⟨gf, 4, none⟩ = some (.slice none 0 0) := B2.out.cell 4
      have f5 := B2.out.frozen 4
      clear x0 x3 f1 f3 TT0 TS ZL M3
      go_upto_if 93 with (fail)
      go_cut [8] (fun _ wx => Hid (CmA w0 wx gf T.start T))
      case first =>
        have C1 := hide (M1.out.tw T2.out hgl)
        have C2 := hide (M2.out.tw T2.out hgl)
        have C4 := hide (M4.out.tw T2.out hgl)
        have T3 := hide (T1.out.trans T2.out)
        cases ha : allK l k with
        | true =>
          have KX : Hid (T.keys = []) := hide (by rw [TK.out, ha, if_pos rfl])
          have NX : Hid (T.nok = true) := hide (by rw [TN.out, ha])
          clear ha TK TN
          go_wp2_with fail
          go_meet
          exact hide ⟨_, _, _, _, _, _, _, _, _, none, 0, 0, B2.out, by rw [TT1.out]; exact C1.out, by rw [TT2.out]; exact C2.out, M5.out, by rw [KX.out]; exact LA.nil _ _ _ _, by rw [NX.out]; simp, T3.out⟩
        | false =>
          have KX : Hid (T.keys = Ks) := hide (by rw [TK.out, ha, if_neg (by simp)])
          have NX : Hid (T.nok = false) := hide (by rw [TN.out, ha])
          clear ha TK TN
          go_wp2_with fail
          go_meet
          exact hide ⟨_, _, _, _, _, _, _, _, _, _, _, _, B2.out.set_ 4 _, by rw [TT1.out]; exact C1.out.tw (Tw.set_ _ _ _ _ _) hgl, by rw [TT2.out]; exact C2.out.tw (Tw.set_ _ _ _ _ _) hgl, M5.out.tw (Tw.set_ _ _ _ _ _) hgl, by rw [KX.out]; exact C4.out.tw (Tw.set_ _ _ _ _ _) hgl, by rw [NX.out]; simp, T3.out.trans (Tw.set_ _ _ _ _ _)⟩
      case rest =>
      obtain ⟨w3, hw3⟩ : ∃ w3, w3 = wc := ⟨_, rfl⟩
      subst hw3
      obtain ⟨sA, sn, sc, hA, hn', hc, zA, zn, zc, kA, kn, kc, b3, m1, m2, m3, m4, nk, t3⟩ := hcut.out
      have B3 := hide b3
      have T3 := hide t3
      have NK := hide nk
      have N1 := hide m1
      have N2 := hide m2
      have N3 := hide m3
      have N4 := hide m4
      have hgl3 : gf < w3.heap.size := b3.lt
      obtain ⟨st, hst⟩ : ∃ st, st = T.start := ⟨_, rfl⟩
      rw [← hst] at B3
      have HST := hide hst.symm
      clear hst
      clear b3 m1 m2 m3 m4 nk t3 hcut B2 M5 T2 M1 M2 M4 TK TN TT1 TT2 B1 T1 g4 f5 HAB H HSM FZ
      go_wp2_with fail
      go_loopw [12] (fun ri wr => ∃ (i : Nat) (v : Value), i ≤ m ∧ ri = .int .i64 i ∧ Hid (Own wr w3.heap.size 134 2 e2 v (chK ch i)) ∧ Hid (Blk wr gf 73 #[.int .i64 st, .slice sA sn sc, .slice hA hn' hc, .slice zA zn zc, .slice kA kn kc, v, .slice none 0 0]) ∧ Hid (Tw w3 wr gf none)) (fun ri _ => m - (intOf ri).toNat)
      case atStart => exact ⟨0, _, by omega, rfl, hide (Own.nil _ _ _ _ _), B3, hide (Tw.refl _ _ _)⟩
      case round =>
        obtain ⟨i, v, hi, rfl, HO, HB, HT⟩ := hrel
        by_cases hlt : i < m
        · obtain ⟨b, off, rfl, _⟩ := HC.out.addr (by omega)
          have HCW := hide (fun (W : World) (hT : Tw w3 W gf none) => HCM.out W (T3.out.trans hT))
          have a0 := (HCW.out _ HT.out).num hlt
          have a1 := (HCW.out _ HT.out).num (k := i - 1) (by omega)
          have GX : Hid (chK ch (i + 1) = if i = 0 ∨ ch.getD i 0 ≠ ch.getD (i - 1) 0 then chK ch i ++ [((i : Int) + 1, ch.getD i 0)] else chK ch i) := hide rfl
          have hcl := chK_len ch i
          have S1 : Hid ((chK ch i).length + 1 ≤ maxLen) := hide (by unfold maxLen; omega)
          have S2 : Hid (((chK ch i).length + 1) * 16 ≤ 140737488355328) := hide (by omega)
          have HX0 := hide (fun (W : World) (hT : Tw w3 W gf none) => (HCW.out W hT).num hlt)
          have HLTb : b < w0.heap.size ∧ b ≠ gf := by have h1 : b < w.heap.size := HCB.out (by omega) _ rfl; have h2 := E0.out.size; have h3 := HGF.out; exact ⟨by omega, by show b ≠ gf; omega⟩
          clear hcl
          generalize ch.getD i 0 = x at *
          generalize ch.getD (i - 1) 0 = y at *
          generalize chK ch i = CK at *
          have i1 : (i : Int) < (m : Int) := by omega
          have i0 : (0 : Int) ≤ (i : Int) := by omega
          have i8 : IntKind.i64.wrap ((i : Int) + 1) = (i : Int) + 1 := by rw [IntKind.wrap_i64]; omega
          go_upto_region 22 with (fail)
          go_cut [115] (fun s wx => ∃ go : Bool, s = .bool go ∧ Hid (go = decide (i = 0 ∨ x ≠ y)) ∧ Hid (Own wx w3.heap.size 134 2 e2 v CK) ∧ Hid (Blk wx gf 73 #[.int .i64 st, .slice sA sn sc, .slice hA hn' hc, .slice zA zn zc, .slice kA kn kc, v, .slice none 0 0]) ∧ Hid (Tw w3 wx gf none))
          case first =>
            rcases Nat.eq_zero_or_pos i with h0 | h0
            · have d0 : ((i : Int) == 0) = true := by rw [beq_iff_eq]; omega
              have GG : Hid (decide (i = 0 ∨ x ≠ y) = true) := hide (by simp [h0])
              clear a1 h0
              first | (go_wp2_with fail; go_meet; exact ⟨_, rfl, hide GG.out.symm, hide (HO.out.ext (Ext.drew _)), hide HB.out.drew, hide HT.out.drew⟩) | (go_region; go_wp2_with fail; go_meet; exact ⟨_, rfl, hide GG.out.symm, hide (HO.out.ext (Ext.drew _)), hide HB.out.drew, hide HT.out.drew⟩)
            · have d0 : ((i : Int) == 0) = false := by rw [beq_eq_false_iff_ne]; omega
              have j1 : IntKind.i64.wrap ((i : Int) - 1) = (i : Int) - 1 := by rw [IntKind.wrap_i64]; omega
              have j2 : ((i : Int) - 1).toNat = i - 1 := by omega
              have j3 : (0 : Int) ≤ (i : Int) - 1 := by omega
              have j4 : (i : Int) - 1 < (m : Int) := by omega
              have j5 : (1 : Int) ≤ (i : Int) := by omega
              have j6 : (i : Int) ≤ (m : Int) := by omega
              have GG : Hid (decide (i = 0 ∨ x ≠ y) = (x != y)) := hide (by
                have : ¬ i = 0 := by omega
                simp [this, bne, Bool.beq_eq_decide_eq])
              clear h0
              first | (go_wp2_with fail; go_meet; exact ⟨_, rfl, hide GG.out.symm, hide (HO.out.ext (Ext.drew _)), hide HB.out.drew, hide HT.out.drew⟩) | (go_region; go_wp2_with fail; go_meet; exact ⟨_, rfl, hide GG.out.symm, hide (HO.out.ext (Ext.drew _)), hide HB.out.drew, hide HT.out.drew⟩)
          case rest =>
          obtain ⟨go, rfl, HGO, QO, QB, QT⟩ := hcut
          obtain ⟨w4, hw4⟩ : ∃ w4, w4 = wc := ⟨_, rfl⟩
          subst hw4
          clear HO HB HT a0 a1
          cases go with
          | false =>
            have HE : Hid (chK ch (i + 1) = CK) := hide (by rw [GX.out, if_neg (of_decide_eq_false HGO.out.symm)])
            clear HGO GX
            go_wp2_with fail
            exact ⟨⟨i + 1, v, by omega, by go_num, by rw [HE.out]; exact QO, QB, QT⟩, by simp [intOf]; omega⟩
          | true =>
            have HE : Hid (chK ch (i + 1) = CK ++ [((i : Int) + 1, x)]) := hide (by rw [GX.out, if_pos (of_decide_eq_true HGO.out.symm)])
            clear HGO GX
            have a0 := HX0.out _ QT.out
            have x5 : w4.cell? ⟨gf, 5, none⟩ = some v := QB.out.cell 5
            have HLT := QO.out.lt
            have S3 : Hid (w3.heap.size ≤ (w4.drew.alloc (.cells #[.int .i64 ((i : Int) + 1), .int .i64 x] 134)).heap.size) := hide (by have := QT.out.size; rw [World.size_alloc]; show w3.heap.size ≤ w4.heap.size + 1; omega)
            go_upto_region 23 with (fail)
            have hS : SGr gf 5 b (off + i) v x w4 := ⟨x5, a0⟩
            have hS0 := hS.ext (Ext.drew w4)
            clear hS
            refine region_z (S := SGr gf 5 b (off + i) v x) 11 (by kernel_rfl) ?_
            refine AnyZ.takeE (i := 0) (d := 116) (oi := _) (v := ?_) rfl rfl rfl (by kernel_rfl) (by kernel_rfl) (by kernel_rfl) (by kernel_rfl) (by kernel_rfl) (by kernel_rfl) (fun _ _ _ h => h) (Or.inl ⟨by rfl, ?_⟩) hS0 ?_
            rotate_left
            · intro W hW; obtain ⟨s1, s2⟩ := hW; first | (go_simp; done) | (go_simp; with_reducible rfl)
            try simp only [Act.put, List.setIfInBounds_toArray, List.set_cons_zero, List.set_cons_succ]
            refine AnyZ.takeE (i := 1) (d := 117) (oi := _) (v := ?_) rfl rfl rfl (by kernel_rfl) (by kernel_rfl) (by kernel_rfl) (by kernel_rfl) (by kernel_rfl) (by kernel_rfl) (fun _ _ _ h => h) (Or.inl ⟨by rfl, ?_⟩) hS0 ?_
            rotate_left
            · intro W hW; obtain ⟨s1, s2⟩ := hW; first | (go_simp; done) | (go_simp; with_reducible rfl)
            try simp only [Act.put, List.setIfInBounds_toArray, List.set_cons_zero, List.set_cons_succ]
            refine AnyZ.takeE (i := 2) (d := 118) (oi := _) (v := ?_) rfl rfl rfl (by kernel_rfl) (by kernel_rfl) (by kernel_rfl) (by kernel_rfl) (by kernel_rfl) (by kernel_rfl) (fun _ _ _ h => h) (Or.inl ⟨by rfl, ?_⟩) hS0 ?_
            rotate_left
            · intro W hW; obtain ⟨s1, s2⟩ := hW; first | (go_simp; done) | (go_simp; with_reducible rfl)
            try simp only [Act.put, List.setIfInBounds_toArray, List.set_cons_zero, List.set_cons_succ]
            refine AnyZ.takeE (i := 3) (d := 119) (oi := _) (v := ?_) rfl rfl rfl (by kernel_rfl) (by kernel_rfl) (by kernel_rfl) (by kernel_rfl) (by kernel_rfl) (by kernel_rfl) (fun _ _ _ h => h) (Or.inl ⟨by rfl, ?_⟩) hS0 ?_
            rotate_left
            · intro W hW; obtain ⟨s1, s2⟩ := hW; first | (go_simp; done) | (go_simp; with_reducible rfl)
            try simp only [Act.put, List.setIfInBounds_toArray, List.set_cons_zero, List.set_cons_succ]
            refine AnyZ.takeE (i := 4) (d := 120) (oi := _) (v := ?_) rfl rfl rfl (by kernel_rfl) (by kernel_rfl) (by kernel_rfl) (by kernel_rfl) (by kernel_rfl) (by kernel_rfl) (fun _ _ _ h => h) (Or.inl ⟨by rfl, ?_⟩) hS0 ?_
            rotate_left
            · intro W hW; obtain ⟨s1, s2⟩ := hW; first | (go_simp; done) | (go_simp; with_reducible rfl)
            try simp only [Act.put, List.setIfInBounds_toArray, List.set_cons_zero, List.set_cons_succ]
            refine AnyZ.takeE (i := 5) (d := 121) (oi := _) (v := ?_) rfl rfl rfl (by kernel_rfl) (by kernel_rfl) (by kernel_rfl) (by kernel_rfl) (by kernel_rfl) (by kernel_rfl) (fun _ _ _ h => h) (Or.inl ⟨by rfl, ?_⟩) hS0 ?_
            rotate_left
            · intro W hW; obtain ⟨s1, s2⟩ := hW; first | (go_simp; done) | (go_simp; with_reducible rfl)
            try simp only [Act.put, List.setIfInBounds_toArray, List.set_cons_zero, List.set_cons_succ]
            refine AnyZ.takeE (i := 6) (d := 122) (oi := _) (v := ?_) rfl rfl rfl (by kernel_rfl) (by kernel_rfl) (by kernel_rfl) (by kernel_rfl) (by kernel_rfl) (by kernel_rfl) (fun _ _ _ h => h) (Or.inl ⟨by rfl, ?_⟩) hS0 ?_
            rotate_left
            · intro W hW; obtain ⟨s1, s2⟩ := hW; first | (go_simp; done) | (go_simp; with_reducible rfl)
            try simp only [Act.put, List.setIfInBounds_toArray, List.set_cons_zero, List.set_cons_succ]
            refine AnyZ.takeE (i := 7) (d := 123) (oi := _) (v := ?_) rfl rfl rfl (by kernel_rfl) (by kernel_rfl) (by kernel_rfl) (by kernel_rfl) (by kernel_rfl) (by kernel_rfl) (fun _ _ _ h => h) (Or.inl ⟨by rfl, ?_⟩) hS0 ?_
            rotate_left
            · intro W hW; obtain ⟨s1, s2⟩ := hW; first | (go_simp; done) | (go_simp; with_reducible rfl)
            try simp only [Act.put, List.setIfInBounds_toArray, List.set_cons_zero, List.set_cons_succ]
            refine AnyZ.takeE (i := 8) (d := 124) (oi := _) (v := ?_) rfl rfl rfl (by kernel_rfl) (by kernel_rfl) (by kernel_rfl) (by kernel_rfl) (by kernel_rfl) (by kernel_rfl) (fun _ _ _ h => h) (Or.inl ⟨by rfl, ?_⟩) hS0 ?_
            rotate_left
            · intro W hW; obtain ⟨s1, s2⟩ := hW; first | (go_simp; done) | (go_simp; with_reducible rfl)
            try simp only [Act.put, List.setIfInBounds_toArray, List.set_cons_zero, List.set_cons_succ]
            refine AnyZ.step (i := 9) rfl (by kernel_rfl) (fun K hK => ?_)
            go_simp
            refine hK.out _ _ (fun h => ?_) ?_
            · exact hS0.ext (Ext.alloc _ _)
            clear hK K
            refine AnyZ.step (i := 10) rfl (by kernel_rfl) (fun K hK => ?_)
            refine step_append_at rfl _ _ 71 rfl w3.heap.size 134 j0_ _ 16 Try.underlying71 hj0 hy0 hy1 hy2 rfl (by omega) len_e2 one_e2 _ _ (by rfl) (QO.out.ext (Ext.trans (Ext.drew _) (Ext.alloc _ _))) (some ⟨w4.heap.size, 0, none⟩) 1 1 [((i : Int) + 1, x)] (by simp [Act.eval]) (At.pair1 (World.drew w4) ((i : Int) + 1) x _) S1.out S2.out S3.out ?_
            intro v7 w7 o7 g7 _ r7
            obtain ⟨A7, c7, hv7, _⟩ := o7.at_ len_e2
            rw [List.length_append, List.length_singleton] at hv7
            subst hv7
            have F7 := hide ((QB.out.ext (Ext.trans (Ext.drew _) (Ext.alloc _ _))).grown g7 (fun e => by have := (HLT _ e.symm).1; omega))
            have O7 := hide o7
            have G7 := hide g7
            clear o7 g7 r7
            refine hK.out _ _ (fun h => ?_) ?_
            · exact ⟨F7.out.cell 5, ((hS0.ext (Ext.alloc _ _)).2 |> fun hh => G7.out.cell hh (fun e => by have h9 : w3.heap.size ≤ b := (HLT _ e.symm).1; have := T3.out.size; omega))⟩
            clear hK K
            try simp only [Act.put, List.setIfInBounds_toArray, List.set_cons_zero, List.set_cons_succ]
            have x7 : w7.cell? ⟨gf, 5, none⟩ = some v := F7.out.cell 5
            have z7 := F7.out.frozen 5
            refine AnyZ.step (i := 11) rfl (by kernel_rfl) (fun K hK => ?_)
            go_simp
            refine hK.out _ _ (fun h => ?_) ?_
            · exact absurd (h.symm.trans (show _ = true by kernel_rfl)) (by simp)
            clear hK K
            try simp only [Act.put, List.setIfInBounds_toArray, List.set_cons_zero, List.set_cons_succ]
            refine AnyZ.step (i := 12) rfl (by kernel_rfl) (fun K hK => ?_)
            go_simp
            refine hK.out _ _ (fun h => ?_) ?_
            · exact absurd (h.symm.trans (show _ = true by kernel_rfl)) (by simp)
            clear hK K
            refine AnyZ.done (by kernel_rfl) ?_ _
            have hlo := O7.out.lt
            have F8 : Hid (Blk (w7.setCell ⟨gf, 5, none⟩ (.slice A7 (CK.length + 1) c7)) gf 73 #[.int .i64 st, .slice sA sn sc, .slice hA hn' hc, .slice zA zn zc, .slice kA kn kc, .slice A7 (CK.length + 1) c7, .slice none 0 0]) := hide (F7.out.set_ 5 _)
            have O8 := hide (O7.out.tw (Tw.set_ w7 gf 5 (.slice A7 (CK.length + 1) c7) none) (fun e => by have := (hlo _ e).1; omega) (fun g _ e => by cases e))
            have T8 : Hid (Tw w3 (w7.setCell ⟨gf, 5, none⟩ (.slice A7 (CK.length + 1) c7)) gf none) := hide (((QT.out.trans (Tw.of_ext (Ext.trans (Ext.drew _) (Ext.alloc _ _)) _ _)).row G7.out (fun g e => .inl (HLT g e).1)).trans (Tw.set_ _ _ _ _ _))
            clear F7 G7 O7 x7 z7
            go_wp2_with fail
            exact ⟨⟨i + 1, _, by omega, by go_num, hide (by rw [HE.out]; exact O8.out), F8, T8⟩, by simp [intOf]; omega⟩
        · obtain rfl : i = m := by omega
          obtain ⟨w5, hw5⟩ : ∃ w5, w5 = wr := ⟨_, rfl⟩
          subst hw5
          obtain ⟨cA, cc, rfl, L5⟩ := LA.own HO.out len_e2
          have M5 := hide (L5.more (T3.out.size))
          have U1 := hide (N1.out.tw HT.out hgl)
          have U2 := hide (N2.out.tw HT.out hgl)
          have U3 := hide (N3.out.tw HT.out hgl)
          have U4 := hide (N4.out.tw HT.out hgl)
          have HTT := hide (T3.out.trans HT.out)
          have HPW := hide (HPM.out _ HTT.out)
          have x6 : w5.cell? ⟨gf, 6, none⟩ = some (.slice none 0 0) := HB.out.cell 6
          have z6 := HB.out.frozen 6
          have RB : Hid (Blk w5 w.heap.size 73 #[.int .i64 0, .slice none 0 0, .slice none 0 0, .slice none 0 0, .slice none 0 0, .slice none 0 0, .slice none 0 0]) := hide (HTT.out.blk R0.out (by have := HGF.out; omega) (by simp))
          have P1 : Hid (([] : List Int).length + q ≤ maxLen) := hide (by simp; unfold maxLen; omega)
          have P2 : Hid ((([] : List Int).length + q) * 8 ≤ 140737488355328) := hide (by simp; omega)
          have HEX : Hid (Ext w w5) := hide (tw_ext' E0.out HTT.out (by have := HGF.out; omega))
          clear hlt hi HO L5 N1 N2 N3 N4
          go_upto_region 25 with (at_builtin; refine wpList_append_at _ rfl (.tmp 129) (.tmp 130) 70 rfl w5.heap.size 3 i0_ _ 8 Try.underlying70 hi0 hz0 hz1 hz2 rfl (by omega) len_e64 one_e64 (.slice none 0 0) [] (by rfl) (Own.nil _ _ _ _ _) D q r pl (by rfl) HPW.out P1.out P2.out (Nat.le_refl _) ?_; intro v7 w7 o7 g7 _ _; obtain ⟨A7, c7, hv7, _⟩ := o7.at_ len_e64; subst hv7; have E7 := hide (grown_ext g7); have O7 := hide o7; have F7 := hide (HB.out.ext (grown_ext g7)); have x7 : w7.cell? ⟨gf, 6, none⟩ = some (.slice none 0 0) := F7.out.cell 6; have z7 := F7.out.frozen 6; clear o7 g7 x6 z6)
          refine gen_wpC fun w8 h8 => ?_
          rw [List.nil_append, HPL.out] at O7
          have F8 : Hid (Blk w8 gf 73 #[.int .i64 st, .slice sA sn sc, .slice hA hn' hc, .slice zA zn zc, .slice kA kn kc, .slice cA (chK ch i).length cc, .slice A7 q c7]) := hide (by rw [h8]; simp only [List.nil_append, HPL.out]; exact F7.out.set_ 6 _)
          have T8 : Hid (Tw w7 w8 gf none) := hide (by rw [h8]; exact Tw.set_ _ _ _ _ _)
          have R8 := hide (T8.out.blk (RB.out.ext E7.out) (by have := HGF.out; omega) (by simp))
          have O8 := hide (O7.out.tw T8.out (fun e => by have := (O7.out.lt _ e).1; have := HB.out.lt; omega) (fun g _ e => by cases e))
          clear h8 x7 z7 F7 O7
          have k0 : w8.cell? ⟨gf, 0, none⟩ = some (.int .i64 st) := F8.out.cell 0
          have k1 : w8.cell? ⟨gf, 1, none⟩ = some (.slice sA sn sc) := F8.out.cell 1
          have k2 : w8.cell? ⟨gf, 2, none⟩ = some (.slice hA hn' hc) := F8.out.cell 2
          have k3 : w8.cell? ⟨gf, 3, none⟩ = some (.slice zA zn zc) := F8.out.cell 3
          have k4 : w8.cell? ⟨gf, 4, none⟩ = some (.slice kA kn kc) := F8.out.cell 4
          have k5 : w8.cell? ⟨gf, 5, none⟩ = some (.slice cA (chK ch i).length cc) := F8.out.cell 5
          have k6 : w8.cell? ⟨gf, 6, none⟩ = some (.slice A7 q c7) := F8.out.cell 6
          have z0 := R8.out.frozen 0
          have y0 : w8.cell? ⟨w.heap.size, 0, none⟩ = some (.int .i64 0) := R8.out.cell 0
          have z1 := R8.out.frozen 1
          have y1 : w8.cell? ⟨w.heap.size, 1, none⟩ = some (.slice none 0 0) := R8.out.cell 1
          have z2 := R8.out.frozen 2
          have y2 : w8.cell? ⟨w.heap.size, 2, none⟩ = some (.slice none 0 0) := R8.out.cell 2
          have z3 := R8.out.frozen 3
          have y3 : w8.cell? ⟨w.heap.size, 3, none⟩ = some (.slice none 0 0) := R8.out.cell 3
          have z4 := R8.out.frozen 4
          have y4 : w8.cell? ⟨w.heap.size, 4, none⟩ = some (.slice none 0 0) := R8.out.cell 4
          have z5 := R8.out.frozen 5
          have y5 : w8.cell? ⟨w.heap.size, 5, none⟩ = some (.slice none 0 0) := R8.out.cell 5
          have z6 := R8.out.frozen 6
          have y6 : w8.cell? ⟨w.heap.size, 6, none⟩ = some (.slice none 0 0) := R8.out.cell 6
          go_wp2_with fail
          refine gen_bod fun w9 h9 => ?_
          have T9 : Hid (Tw w8 w9 w.heap.size none) := hide (by rw [h9]; have q7 := Tw.set7 w8 w.heap.size (.int .i64 st) (.slice sA sn sc) (.slice hA hn' hc) (.slice zA zn zc) (.slice kA kn kc) (.slice cA (chK ch i).length cc) (.slice A7 q c7); exact q7)
          have R9 : Hid (Blk w9 w.heap.size 73 #[.int .i64 st, .slice sA sn sc, .slice hA hn' hc, .slice zA zn zc, .slice kA kn kc, .slice cA (chK ch i).length cc, .slice A7 q c7]) := hide (by rw [h9]; have q7 := (((((((R8.out.set_ 0 (.int .i64 st)).set_ 1 (.slice sA sn sc)).set_ 2 (.slice hA hn' hc)).set_ 3 (.slice zA zn zc)).set_ 4 (.slice kA kn kc)).set_ 5 (.slice cA (chK ch i).length cc)).set_ 6 (.slice A7 q c7)); exact q7)
          refine bodyPost_ret (v := .agg #[.int .i64 st, .slice sA sn sc, .slice hA hn' hc, .slice zA zn zc, .slice kA kn kc, .slice cA (chK ch i).length cc, .slice A7 q c7]) (res_table Try.results50 (by rfl) R9.out) rfl ?_
          have hw7 := E7.out.size
          have hw5 := HEX.out.size
          have hgfw := HGF.out
          have hw0 := E0.out.size
          have hst : w.heap.size < gf := by omega
          have key : ∀ {α : Type} {sz : Nat} {enc : α → List Value} {X : Option Addr} {k' c' : Nat} {L : List α}, LA w5 w0.heap.size sz enc X k' c' L → LA w9 w0.heap.size sz enc X k' c' L := fun hL => (((⟨hL.at_.ext E7.out, hL.lo⟩ : LA w7 w0.heap.size _ _ _ _ _ _).tw T8.out hgl).tw T9.out (by omega))
          have V1 := key U1.out
          have V2 := key U2.out
          have V3 := key U3.out
          have V4 := key U4.out
          have V5 : LA w9 w0.heap.size 2 e2 cA (chK ch i).length cc T.chunks := by rw [TC.out]; exact key M5.out
          have V6 : LA w9 w0.heap.size 1 e64 A7 q c7 pl := (⟨O8.out.atS len_e64, fun a ha => by have h1 := (O8.out.lt a.block (by rw [ha]; rfl)).1; have h2 := HTT.out.size; omega⟩ : LA w8 w0.heap.size 1 e64 A7 q c7 pl).tw T9.out (by omega)
          rw [← TP.out] at V6
          have hst2 : st = T.start := HST.out.symm
          have hfin : TbB w9 w.heap.size (.agg #[.int .i64 st, .slice sA sn sc, .slice hA hn' hc, .slice zA zn zc, .slice kA kn kc, .slice cA (chK ch i).length cc, .slice A7 q c7]) T := ⟨sA, sn, sc, hA, hn', hc, zA, zn, zc, kA, kn, kc, cA, (chK ch i).length, cc, A7, q, c7, by rw [hst2], ⟨V1.at_, V2.at_, V3.at_, V4.at_, NK.out, V5.at_, V6.at_⟩, (fun a ha => by rcases ha with h | h | h | h | h | h <;> first | (have := V1.lo a h; omega) | (have := V2.lo a h; omega) | (have := V3.lo a h; omega) | (have := V4.lo a h; omega) | (have := V5.lo a h; omega) | (have := V6.lo a h; omega))⟩
          rw [← HTE.out] at hfin
          have hfin2 : Ext w w9 := tw_ext' (tw_ext' (Ext.trans HEX.out E7.out) T8.out (by omega)) T9.out (Nat.le_refl _)
          exact ⟨_, rfl, hfin, hfin2⟩
end Go.Proofs.Ytlonhkjplijlcaa
