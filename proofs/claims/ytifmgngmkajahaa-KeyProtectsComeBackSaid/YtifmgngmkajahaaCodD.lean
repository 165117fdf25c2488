/- Walk of the document's coded. Conditions as stated. -/
import Derived.Test.YtifmgngmkajahaaCodC
namespace Go.Proofs.Ytifmgngmkajahaa
open Go.RowKit Kc

set_option maxRecDepth 100000 in
set_option maxHeartbeats 2000000 in
theorem refCoded_bad (back : Bool) {A1 A2 A3 A4 : Option Addr} {c1 c2 c3 c4 n1 n2 n n4 : Nat} {l : List (Int × Int)} {m c s : Int} {w : World} (h4 : At w 2 e2 A4 n4 c4 l) (hF : codF m c s n1 n2 n l ≠ 0) :
    Calls Try.prog 119 #[schV m c s, .slice A1 n1 c1, .slice A2 n2 c2, .slice A3 n c3, .slice A4 n4 c4, .bool back] w fun e w' => e = .returned (.tuple #[.slice none 0 0, .int .i64 (codF m c s n1 n2 n l)]) ∧ Ext w w' := by
  have HC := hide (fun W => refScheme_any m c s W)
  have HM := hide (fun W => ask_any A1 A2 A3 n1 n2 c1 c2 n c3 W)
  have HL := hide (fun W (hx : Ext w W) => refList_any (h4.ext hx) (n : Int))
  have hdef : codF m c s n1 n2 n l = if schF m c s ≠ 0 then schF m c s else if modeF n1 n2 n ≠ 0 then modeF n1 n2 n else listF l (n : Int) := rfl
  generalize codF m c s n1 n2 n l = R at *
  generalize schF m c s = r1 at *
  generalize modeF n1 n2 n = r2 at *
  generalize listF l (n : Int) = r3 at *
  by_cases h1 : r1 = 0
  · rw [if_neg (by simpa using h1)] at hdef
    rw [h1] at HC
    by_cases h2 : r2 = 0
    · rw [if_neg (by simpa using h2)] at hdef
      rw [h2] at HM
      have HR := hide hdef
      have hb : (r3 != 0) = true := by rw [bne_iff_ne, ← hdef]; exact hF
      clear hdef hF h1 h2 h4
      go_enter Try.func119, Try.ntmps119
      go_wp2_with (first | ((go_at_call 47; refine (HC.out _).mono ?_); rintro e w1 ⟨rfl, e1⟩; have E1 := hide (Ext.trans (Ext.alloc w (.cells #[.int .i64 m, .int .i64 c, .int .i64 s] 57)) e1); clear e1) | ((go_at_call 98; refine (HM.out _).mono ?_); rintro e w' ⟨rfl, rfl⟩) | ((go_at_call 106; refine (HL.out _ E1.out).mono ?_); rintro e w3 ⟨rfl, e3⟩; have E3 := hide (Ext.trans E1.out e3); clear e3))
      go_ret2
      exact ⟨by rw [HR.out]; rfl, E3.out⟩
    · rw [if_pos h2] at hdef
      have HR := hide hdef
      have hb : (r2 != 0) = true := by rw [bne_iff_ne]; exact h2
      clear hdef hF h1 h2 h4
      go_enter Try.func119, Try.ntmps119
      go_wp2_with (first | ((go_at_call 47; refine (HC.out _).mono ?_); rintro e w1 ⟨rfl, e1⟩; have E1 := hide (Ext.trans (Ext.alloc w (.cells #[.int .i64 m, .int .i64 c, .int .i64 s] 57)) e1); clear e1) | ((go_at_call 98; refine (HM.out _).mono ?_); rintro e w' ⟨rfl, rfl⟩))
      go_ret2
      exact ⟨by rw [HR.out]; rfl, E1.out⟩
  · rw [if_pos h1] at hdef
    have HR := hide hdef
    have hb : (r1 != 0) = true := by rw [bne_iff_ne]; exact h1
    clear hdef hF h1 h4
    go_enter Try.func119, Try.ntmps119
    go_wp2_with (first | ((go_at_call 47; refine (HC.out _).mono ?_); rintro e w1 ⟨rfl, e1⟩; have E1 := hide (Ext.trans (Ext.alloc w (.cells #[.int .i64 m, .int .i64 c, .int .i64 s] 57)) e1); clear e1))
    go_ret2
    exact ⟨by rw [HR.out]; rfl, E1.out⟩

/-- By a stream, the place is that one. -/
def TAt (m : Int) (t u : Nat) : Prop := m = 1 → t = u
structure CodRt (w wr : World) (Ao : Option Addr) (n C : Nat) (m c s : Int) (Ap : Option Addr) (np cp : Nat) (P : List (Int × Int)) (xs : List UInt8) : Prop where
  own : Own wr w.heap.size 5 1 e8 (.slice Ao n C) xs
  parts : At wr 2 e2 Ap np cp P
  box : Blk wr w.heap.size 57 #[.int .i64 m, .int .i64 c, .int .i64 s]
  ext : Ext w wr
  away : ∀ a x, Ap = some a → Ao = some x → a.block ≠ x.block
  gw : ∀ x, Ao = some x → w.heap.size < x.block
section
variable {w wr w' : World} {Ao : Option Addr} {n C : Nat} {m c s : Int} {Ap : Option Addr} {np cp : Nat} {P : List (Int × Int)} {xs : List UInt8}
theorem CodRt.next (h : CodRt w wr Ao n C m c s Ap np cp P xs) (he : Ext wr w') : CodRt w w' Ao n C m c s Ap np cp P xs :=
  ⟨h.own.ext he, h.parts.ext he, h.box.ext he, Ext.trans h.ext he, h.away, h.gw⟩
theorem CodRt.wrote {g : Nat} (hA : Ao = some ⟨g, 0, none⟩) (h : CodRt w wr Ao n C m c s Ap np cp P xs) {ys : List UInt8} (ho : Own w' w.heap.size 5 1 e8 (.slice Ao n C) ys) (hg : wr.grownBy w' (some g)) : CodRt w w' Ao n C m c s Ap np cp P ys :=
  ⟨ho, h.parts.grown hg (fun a ha e => h.away a _ ha hA (Option.some.inj e)),
   h.box.grown hg (fun e => by have := h.gw _ hA; have := Option.some.inj e; simp only at *; omega),
   Below.grown h.ext hg h.ext.size (fun q e => by have := h.gw _ hA; have := Option.some.inj e; simp only at *; omega), h.away, h.gw⟩
theorem CodRt.some_ (h : CodRt w wr Ao n C m c s Ap np cp P xs) (hn : 0 < n) : ∃ g, Ao = some ⟨g, 0, none⟩ ∧ g < wr.heap.size := by
  have hl := h.own.len len_e8
  obtain ⟨g, e, _, h2⟩ := h.own.where_ hn hl
  exact ⟨g, e, h2⟩
end

set_option maxRecDepth 100000 in
set_option maxHeartbeats 8000000 in
theorem refCoded_ok (back : Bool) {A1 A2 A3 A4 : Option Addr} {c1 c2 c3 c4 n n4 cn sn : Nat} {k v b : List UInt8} {l : List (Int × Int)} {m : Int} {w : World} (h1 : At w 1 e8 A1 16 c1 k) (h2 : At w 1 e8 A2 8 c2 v) (h3 : At w 1 e8 A3 n c3 b) (h4 : At w 2 e2 A4 n4 c4 l) (hF : codF m (cn : Int) (sn : Int) 16 8 n l = 0) :
    Calls Try.prog 119 #[schV m (cn : Int) (sn : Int), .slice A1 16 c1, .slice A2 8 c2, .slice A3 n c3, .slice A4 n4 c4, .bool back] w
      fun e w' => ∃ A c', e = .returned (.tuple #[.slice A n c', .int .i64 0]) ∧ At w' 1 e8 A n c' (codK m cn sn back k v b (partsR l (n : Int))).1 ∧ Ext w w' := by
  obtain ⟨hs0, hmo, hl0⟩ := codF_zero hF
  obtain ⟨_, _, hn⟩ := modeF_zero hmo
  obtain ⟨hsub, _⟩ := listF_zero hl0
  obtain ⟨hm, hm1, hc, hs, hc0⟩ := schF_zero hs0
  have hbl := hide h3.len
  have hle3 := h3.le
  have hcb3 := h3.boundc
  have HC := hide (fun W => refScheme_any m (cn : Int) (sn : Int) W)
  have HM := hide (fun W => ask_any A1 A2 A3 16 8 c1 c2 n c3 W)
  have HL := hide (fun W (hx : Ext w W) => refList_any (h4.ext hx) (n : Int))
  have HP := hide (fun W (hx : Ext w W) => refParts_any (h4.ext hx) hsub (n : Int))
  have hpf := parts_filter hl0
  have HMEM := hide (fun p (hp : p ∈ partsR l (n : Int)) => show 0 ≤ p.1 ∧ p.1 < p.2 ∧ p.2 ≤ (n : Int) by
    rw [hpf] at hp
    have := parts_mem (p := p) hl0 (by omega) (List.mem_filter.1 hp).1
    have h2 := (List.mem_filter.1 hp).2
    simp at h2
    omega)
  have HCH : Hid (chainS 0 (partsR l (n : Int))) := hide (by rw [hpf]; exact chain_filter _ (parts_chain hl0 (by omega)).1)
  rw [hs0] at HC
  rw [hl0] at HL
  rw [hmo] at HM
  generalize partsR l (n : Int) = P at *
  have H1 := hide h1; have H2 := hide h2; have H3 := hide h3
  clear hF hs0 hl0 hsub h1 h2 h3 h4 hm1 hc0 hmo hpf
  go_enter Try.func119, Try.ntmps119
  go_wp2_with (first | ((go_at_call 47; refine (HC.out _).mono ?_); rintro e w1 ⟨rfl, e1⟩; have E1 := hide (Ext.trans (Ext.alloc w (.cells #[.int .i64 m, .int .i64 (cn : Int), .int .i64 (sn : Int)] 57)) e1); have F1 := hide e1; clear e1) | ((go_at_call 98; refine (HM.out _).mono ?_); rintro e w' ⟨rfl, rfl⟩) | ((go_at_call 106; refine (HL.out _ E1.out).mono ?_); rintro e w3 ⟨rfl, e3⟩; have E3 := hide (Ext.trans E1.out e3); have F3 := hide (Ext.trans F1.out e3); clear e3))
  have z3 := F3.out.size
  simp only [World.size_alloc] at z3
  refine (cloneB_any (H3.out.ext E3.out) (by omega)).mono ?_
  rintro e w4 ⟨Ao, C, rfl, o4, _, e4⟩
  have O4 := hide o4
  have F4 := hide (Ext.trans F3.out e4)
  have E4 := hide (Ext.trans E3.out e4)
  have B4 := hide ((Blk.new w 57 #[.int .i64 m, .int .i64 (cn : Int), .int .i64 (sn : Int)]).ext F4.out)
  have k1 := B4.out.cell 1; have k2 := B4.out.cell 2
  simp only [List.getElem?_toArray, List.getElem?_cons_zero, List.getElem?_cons_succ] at k1 k2
  clear o4 e4 E1 F1 E3 F3
  go_wp2_with fail
  refine (HP.out _ E4.out).mono ?_
  rintro e w6 ⟨Ap, np, cp, rfl, ap, hnp, e6, hap⟩
  have hlp := hide ap.len
  have S6 : Hid (CodRt w w6 Ao n C m (cn : Int) (sn : Int) Ap np cp P (codK m cn sn back k v b (P.take 0)).1) := hide
    ⟨(O4.out.ext e6).more (by omega), ap, B4.out.ext e6, Ext.trans E4.out e6, fun a x ha hx => by have h1 := hap a ha; have h2 := (O4.out.lt x.block (by rw [hx]; rfl)).2; omega, fun x hx => by have := (O4.out.lt x.block (by rw [hx]; rfl)).1; omega⟩
  clear O4 F4 E4 B4 ap e6 hap k1 k2 z3
  go_wp2_with fail
  go_loopw [18, 54] (fun rt ri wr => ∃ q t : Nat, q ≤ np ∧ ri = .int .i64 q ∧ rt = .int .i64 t ∧ t ≤ 100000 * q ∧ Hid (TAt m t (codK m cn sn back k v b (P.take q)).2) ∧ Hid (CodRt w wr Ao n C m (cn : Int) (sn : Int) Ap np cp P (codK m cn sn back k v b (P.take q)).1)) (fun _ ri _ => np - (intOf ri).toNat)
  case atStart => exact ⟨0, 0, by omega, rfl, rfl, by omega, hide (show TAt m 0 _ from fun _ => rfl), S6⟩
  case round =>
    obtain ⟨q, t, hq, rfl, rfl, htq, HTM, HS⟩ := hrel
    clear S6
    by_cases hlt : q < np
    · obtain ⟨pb, off, hApe, _⟩ := HS.out.parts.addr (by omega)
      subst hApe
      obtain ⟨a1, a2⟩ := HS.out.parts.pair hlt
      obtain ⟨p1, p2, p3⟩ := HMEM.out _ (getD_mem P q (0, 0) (by rw [hlp.out]; exact hlt))
      have HPT := codK_part (m := m) (c := cn) (s := sn) (back := back) (k := k) (v := v) (b := b) HCH.out (fun p hp => by rw [hbl.out]; exact (HMEM.out p hp).2.2) (q := q) (by rw [hlp.out]; exact hlt)
      have hsuc := codK_succ (m := m) (c := cn) (s := sn) (back := back) (k := k) (v := v) (b := b) (P := P) (q := q) (by rw [hlp.out]; exact hlt)
      generalize P.getD q (0, 0) = y at *
      obtain ⟨y0, y1⟩ := y
      simp only at a1 a2 p1 p2 p3 HPT
      obtain ⟨a, rfl⟩ : ∃ a : Nat, y0 = (a : Int) := ⟨y0.toNat, by omega⟩
      obtain ⟨d, rfl⟩ : ∃ d : Nat, y1 = (d : Int) := ⟨y1.toNat, by omega⟩
      rw [hbl.out, Int.toNat_natCast] at HPT
      obtain ⟨hx1, _⟩ := HPT
      have hsuc2 : codK m cn sn back k v b (P.take (q + 1)) = (spl (codK m cn sn back k v b (P.take q)).1 a (codG m cn sn back k v (codK m cn sn back k v b (P.take q)).2 ((b.drop a).take (d - a))), (codK m cn sn back k v b (P.take q)).2 + (d - a)) := by
        rw [hsuc]; unfold codS; simp only [Int.toNat_natCast]
      have HSUC := hide hsuc2
      have had : a < d := by omega
      have hdn : d ≤ n := by omega
      have hxl : ((b.drop a).take (d - a)).length = d - a := by rw [List.length_take, List.length_drop, hbl.out]; omega
      have HXL := hide hxl
      have HX1 := hide hx1
      obtain ⟨g, hAo, hgl⟩ := HS.out.some_ (by omega)
      subst hAo
      have hgw := HS.out.gw _ rfl
      simp only at hgw
      obtain ⟨As, sb, hsl⟩ := (H3.out.range_ Try.underlying22 sizeByte (k := a) (m := d) (by omega) hdn (a : Int) (d : Int) rfl rfl)
      have HSL := hide hsl
      have hat := HS.out.own.atS len_e8
      have hNC := hat.le
      have hCb := hat.boundc
      have ic : (a : Int) ≤ (C : Int) := by omega
      have jc : ¬ C = a := by omega
      have i10 : d - a ≤ n - a := by omega
      have i11 : (0 : Int) ≤ (a : Int) := by omega
      have i12 : (a : Int) ≤ (n : Int) := by omega
      obtain ⟨wo, hwo⟩ : ∃ wo, wo = wr := ⟨_, rfl⟩
      subst hwo
      have hB := HS.out.box
      have k0 := hB.cell 0; have k1 := hB.cell 1; have k2 := hB.cell 2
      simp only [List.getElem?_toArray, List.getElem?_cons_zero, List.getElem?_cons_succ] at k0 k1 k2
      have S7 := hide (HS.out.next (Ext.alloc wo (.cells #[.int .i64 (a : Int), .int .i64 (d : Int)] 33)))
      have k1' := (S7.out.box).cell 1
      have l0 := (Blk.new wo 33 #[.int .i64 (a : Int), .int .i64 (d : Int)]).cell 0
      simp only [List.getElem?_toArray, List.getElem?_cons_zero, List.getElem?_cons_succ] at k1' l0
      have hBlt := hB.lt
      have XS := hide (hsl _ (H3.out.ext S7.out.ext))
      generalize (codK m cn sn back k v b (P.take q)).1 = xs at *
      clear hsuc hsuc2 hxl hx1 hat hB HS hsl
      rcases hm with rfl | rfl
      · have htt := HTM.out rfl
        rw [← htt] at HSUC
        have HCOD : Hid (codG 1 cn sn back k v t ((b.drop a).take (d - a)) = xrL ((b.drop a).take (d - a)) (strL k v t (d - a))) := hide (by
          unfold codG; rw [if_pos rfl, HXL.out])
        have HT2 : Hid ((codK 1 cn sn back k v b (P.take (q + 1))).2 = t + (d - a)) := hide (by rw [HSUC.out])
        have ht5 : t ≤ 1000000000000000 := by omega
        generalize (b.drop a).take (d - a) = x at *
        clear htt HTM
        go_wp2_with fail
        go_region_held3 (fun w' => w'.cell? ⟨wo.heap.size, 0, none⟩ = some (.int .i64 (a : Int)) ∧ w'.cell? ⟨w.heap.size, 1, none⟩ = some (.int .i64 (cn : Int))) (first | (with_reducible exact ⟨l0, k1'⟩) | (with_reducible exact ⟨f40, f41⟩) | (with_reducible exact ⟨x3.out.cell l0, x3.out.cell k1'⟩) | (with_reducible exact ⟨x2.out.cell l0, x2.out.cell k1'⟩) | go_keep) (first
          | ((go_at_call 99; with_reducible refine (stream_any (H1.out.ext (Ext.trans S7.out.ext (by repeat' (first | (with_reducible exact Below.refl _ _) | (with_reducible assumption) | (with_reducible refine below_drewN ?_ _) | (with_reducible refine Below.drew ?_) | (with_reducible refine ext_alloc ?_ _) | (with_reducible refine Below.setCell ?_ ?_ _) | go_size)))) (H2.out.ext (Ext.trans S7.out.ext (by repeat' (first | (with_reducible exact Below.refl _ _) | (with_reducible assumption) | (with_reducible refine below_drewN ?_ _) | (with_reducible refine Below.drew ?_) | (with_reducible refine ext_alloc ?_ _) | (with_reducible refine Below.setCell ?_ ?_ _) | go_size)))) (by omega) ht5).mono ?_); rintro e w2 ⟨A2', c2', rfl, o2, e2⟩; have x2 := hide (Ext.trans (show Ext (wo.alloc (.cells #[.int .i64 (a : Int), .int .i64 (d : Int)] 33)) _ from (by repeat' (first | (with_reducible exact Below.refl _ _) | (with_reducible assumption) | (with_reducible refine below_drewN ?_ _) | (with_reducible refine Below.drew ?_) | (with_reducible refine ext_alloc ?_ _) | (with_reducible refine Below.setCell ?_ ?_ _) | go_size))) e2); have P2 := hide o2; clear o2 e2)
          | ((go_at_call 82; with_reducible refine (xored_any (XS.out.ext x2.out) P2.out (Nat.le_refl _) (by omega)).mono ?_); rintro e w3 ⟨g3, rfl, o3, e3⟩; have x3 := hide (Ext.trans x2.out e3); have P3 := hide (o3.atS len_e8); clear o3 e3)
          | ((refine step_copy_ownB rfl (.tmp 83) (.tmp 91) 22 22 rfl 5 Try.underlying22 size8 (base := w.heap.size) (g := g) (N := n) (C := C) (off := a) (dl := n - a) (dc := C - a) (te := 5) (n := d - a) (xs := xs) (m := xrL x (strL k v t (d - a))) (by simp [Act.eval]; done) (by simp [Act.eval]; done) (S7.out.own.ext x3.out) P3.out i10 (by omega) (by omega) ?_; intro w4 o4 g4; have O4 := hide o4; have G4 := hide g4; have f40 := (World.cell?_of_block (a := ⟨wo.heap.size, 0, none⟩) (g4.block wo.heap.size (by have := x3.out.size; simp at this; omega) (fun e => by have := Option.some.inj e; omega))).trans (x3.out.cell l0); have f41 := (World.cell?_of_block (a := ⟨w.heap.size, 1, none⟩) (g4.block w.heap.size (by have := x3.out.size; simp at this; omega) (fun e => by have := Option.some.inj e; omega))).trans (x3.out.cell k1'); clear o4 g4)))
        all_goals
          have S9 : Hid (CodRt w w4 (some ⟨g, 0, none⟩) n C (1 : Int) (cn : Int) (sn : Int) (some ⟨pb, off, none⟩) np cp P (codK (1 : Int) cn sn back k v b (P.take (q + 1))).1) := hide (by
            rw [HSUC.out]
            simp only
            rw [HCOD.out]
            exact (S7.out.next x3.out).wrote rfl O4.out G4.out)
          have HT9 : Hid (TAt 1 (t + (d - a)) (codK (1 : Int) cn sn back k v b (P.take (q + 1))).2) := hide (fun _ => HT2.out.symm)
          clear x3 O4 G4 f40 f41 XS HSUC HCOD
          go_wp2
          go_roundw
          case rel =>
            first
              | exact ⟨q + 1, t + (d - a), by omega, by go_num, int_val (by omega), by omega, HT9, S9⟩
              | ((repeat apply Exists.intro); exact ⟨⟨q + 1, t + (d - a), by omega, by go_num, int_val (by omega), by omega, HT9, S9⟩, rfl⟩)
          case measure => simp [intOf]; omega
      · clear HTM
        cases back with
        | false =>
          have HCOD : Hid (codG 2 cn sn false k v (codK 2 cn sn false k v b (P.take q)).2 ((b.drop a).take (d - a)) = chG k cn (cn + sn) ((d - a) / 8) 0 v ((b.drop a).take (d - a))) := hide (by
            unfold codG; rw [if_neg (by decide), HXL.out, chG_gG]; rfl)
          have HCT := hide (fun (W : World) (hx : Ext (wo.alloc (.cells #[.int .i64 (a : Int), .int .i64 (d : Int)] 33)) W) => by
            have := chained_any (cr := cn) (ev := cn + sn) (H1.out.ext (Ext.trans S7.out.ext hx)) (H2.out.ext (Ext.trans S7.out.ext hx)) (XS.out.ext hx) (by omega) (by omega)
            rw [Int.natCast_add] at this
            exact this)
          obtain ⟨z, hzz⟩ : ∃ z, z = chG k cn (cn + sn) ((d - a) / 8) 0 v ((b.drop a).take (d - a)) := ⟨_, rfl⟩
          rw [← hzz] at HCOD HCT
          clear hzz
          go_wp2_with fail
          go_region_held3 (fun w' => w'.cell? ⟨wo.heap.size, 0, none⟩ = some (.int .i64 (a : Int)) ∧ w'.cell? ⟨w.heap.size, 1, none⟩ = some (.int .i64 (cn : Int))) (first | (with_reducible exact ⟨l0, k1'⟩) | (with_reducible exact ⟨f40, f41⟩) | (with_reducible exact ⟨x3.out.cell l0, x3.out.cell k1'⟩) | (with_reducible exact ⟨x2.out.cell l0, x2.out.cell k1'⟩) | go_keep) (first
            | ((go_at_call 100; with_reducible refine (HCT.out _ (by repeat' (first | (with_reducible exact Below.refl _ _) | (with_reducible assumption) | (with_reducible refine below_drewN ?_ _) | (with_reducible refine Below.drew ?_) | (with_reducible refine ext_alloc ?_ _) | (with_reducible refine Below.setCell ?_ ?_ _) | go_size))).mono ?_); rintro e w3 ⟨A3', c3', rfl, o3, e3⟩; have x3 := hide (Ext.trans (show Ext (wo.alloc (.cells #[.int .i64 (a : Int), .int .i64 (d : Int)] 33)) _ from (by repeat' (first | (with_reducible exact Below.refl _ _) | (with_reducible assumption) | (with_reducible refine below_drewN ?_ _) | (with_reducible refine Below.drew ?_) | (with_reducible refine ext_alloc ?_ _) | (with_reducible refine Below.setCell ?_ ?_ _) | go_size))) e3); have P3 := hide o3; clear o3 e3)
            | ((refine step_copy_ownB rfl (.tmp 67) (.tmp 74) 22 22 rfl 5 Try.underlying22 size8 (base := w.heap.size) (g := g) (N := n) (C := C) (off := a) (dl := n - a) (dc := C - a) (te := 5) (n := d - a) (xs := xs) (m := z) (by simp [Act.eval]; done) (by simp [Act.eval]; done) (S7.out.own.ext x3.out) P3.out i10 (by omega) (by omega) ?_; intro w4 o4 g4; have O4 := hide o4; have G4 := hide g4; have f40 := (World.cell?_of_block (a := ⟨wo.heap.size, 0, none⟩) (g4.block wo.heap.size (by have := x3.out.size; simp at this; omega) (fun e => by have := Option.some.inj e; omega))).trans (x3.out.cell l0); have f41 := (World.cell?_of_block (a := ⟨w.heap.size, 1, none⟩) (g4.block w.heap.size (by have := x3.out.size; simp at this; omega) (fun e => by have := Option.some.inj e; omega))).trans (x3.out.cell k1'); clear o4 g4)))
          all_goals
            have S9 : Hid (CodRt w w4 (some ⟨g, 0, none⟩) n C (2 : Int) (cn : Int) (sn : Int) (some ⟨pb, off, none⟩) np cp P (codK (2 : Int) cn sn false k v b (P.take (q + 1))).1) := hide (by
              rw [HSUC.out]
              simp only
              rw [HCOD.out]
              exact (S7.out.next x3.out).wrote rfl O4.out G4.out)
            have HT9 : Hid (TAt 2 t (codK (2 : Int) cn sn false k v b (P.take (q + 1))).2) := hide (fun h => absurd h (by decide))
            clear x3 O4 G4 f40 f41 XS HSUC HCOD
            go_wp2
            go_roundw
            case rel =>
              first
                | exact ⟨q + 1, t, by omega, by go_num, rfl, by omega, HT9, S9⟩
                | ((repeat apply Exists.intro); exact ⟨⟨q + 1, t, by omega, by go_num, rfl, by omega, HT9, S9⟩, rfl⟩)
            case measure => simp [intOf]; omega
        | true =>
          have HCOD : Hid (codG 2 cn sn true k v (codK 2 cn sn true k v b (P.take q)).2 ((b.drop a).take (d - a)) = unG k cn (cn + sn) ((d - a) / 8) 0 v ((b.drop a).take (d - a))) := hide (by
            unfold codG; rw [if_neg (by decide), HXL.out, unG_gG]; rfl)
          have HCT := hide (fun (W : World) (hx : Ext (wo.alloc (.cells #[.int .i64 (a : Int), .int .i64 (d : Int)] 33)) W) => by
            have := unchained_any (cr := cn) (ev := cn + sn) (H1.out.ext (Ext.trans S7.out.ext hx)) (H2.out.ext (Ext.trans S7.out.ext hx)) (XS.out.ext hx) (by omega) (by omega)
            rw [Int.natCast_add] at this
            exact this)
          obtain ⟨z, hzz⟩ : ∃ z, z = unG k cn (cn + sn) ((d - a) / 8) 0 v ((b.drop a).take (d - a)) := ⟨_, rfl⟩
          rw [← hzz] at HCOD HCT
          clear hzz
          go_wp2_with fail
          go_region_held3 (fun w' => w'.cell? ⟨wo.heap.size, 0, none⟩ = some (.int .i64 (a : Int)) ∧ w'.cell? ⟨w.heap.size, 1, none⟩ = some (.int .i64 (cn : Int))) (first | (with_reducible exact ⟨l0, k1'⟩) | (with_reducible exact ⟨f40, f41⟩) | (with_reducible exact ⟨x3.out.cell l0, x3.out.cell k1'⟩) | (with_reducible exact ⟨x2.out.cell l0, x2.out.cell k1'⟩) | go_keep) (first
            | ((go_at_call 101; with_reducible refine (HCT.out _ (by repeat' (first | (with_reducible exact Below.refl _ _) | (with_reducible assumption) | (with_reducible refine below_drewN ?_ _) | (with_reducible refine Below.drew ?_) | (with_reducible refine ext_alloc ?_ _) | (with_reducible refine Below.setCell ?_ ?_ _) | go_size))).mono ?_); rintro e w3 ⟨A3', c3', rfl, o3, e3⟩; have x3 := hide (Ext.trans (show Ext (wo.alloc (.cells #[.int .i64 (a : Int), .int .i64 (d : Int)] 33)) _ from (by repeat' (first | (with_reducible exact Below.refl _ _) | (with_reducible assumption) | (with_reducible refine below_drewN ?_ _) | (with_reducible refine Below.drew ?_) | (with_reducible refine ext_alloc ?_ _) | (with_reducible refine Below.setCell ?_ ?_ _) | go_size))) e3); have P3 := hide o3; clear o3 e3)
            | ((refine step_copy_ownB rfl (.tmp 102) (.tmp 109) 22 22 rfl 5 Try.underlying22 size8 (base := w.heap.size) (g := g) (N := n) (C := C) (off := a) (dl := n - a) (dc := C - a) (te := 5) (n := d - a) (xs := xs) (m := z) (by simp [Act.eval]; done) (by simp [Act.eval]; done) (S7.out.own.ext x3.out) P3.out i10 (by omega) (by omega) ?_; intro w4 o4 g4; have O4 := hide o4; have G4 := hide g4; have f40 := (World.cell?_of_block (a := ⟨wo.heap.size, 0, none⟩) (g4.block wo.heap.size (by have := x3.out.size; simp at this; omega) (fun e => by have := Option.some.inj e; omega))).trans (x3.out.cell l0); have f41 := (World.cell?_of_block (a := ⟨w.heap.size, 1, none⟩) (g4.block w.heap.size (by have := x3.out.size; simp at this; omega) (fun e => by have := Option.some.inj e; omega))).trans (x3.out.cell k1'); clear o4 g4)))
          all_goals
            have S9 : Hid (CodRt w w4 (some ⟨g, 0, none⟩) n C (2 : Int) (cn : Int) (sn : Int) (some ⟨pb, off, none⟩) np cp P (codK (2 : Int) cn sn true k v b (P.take (q + 1))).1) := hide (by
              rw [HSUC.out]
              simp only
              rw [HCOD.out]
              exact (S7.out.next x3.out).wrote rfl O4.out G4.out)
            have HT9 : Hid (TAt 2 t (codK (2 : Int) cn sn true k v b (P.take (q + 1))).2) := hide (fun h => absurd h (by decide))
            clear x3 O4 G4 f40 f41 XS HSUC HCOD
            go_wp2
            go_roundw
            case rel =>
              first
                | exact ⟨q + 1, t, by omega, by go_num, rfl, by omega, HT9, S9⟩
                | ((repeat apply Exists.intro); exact ⟨⟨q + 1, t, by omega, by go_num, rfl, by omega, HT9, S9⟩, rfl⟩)
            case measure => simp [intOf]; omega
    · have hfull : P.take q = P := by rw [List.take_of_length_le (by have := hlp.out; omega)]
      rw [hfull] at HS
      have HV := hide (HS.out.own.atS len_e8)
      have HE := hide HS.out.ext
      clear hfull HS
      go_wp2
      go_ret2
      exact ⟨_, _, rfl, HV.out, HE.out⟩
end Go.Proofs.Ytifmgngmkajahaa
