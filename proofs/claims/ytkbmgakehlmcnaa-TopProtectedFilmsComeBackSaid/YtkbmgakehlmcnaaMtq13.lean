/- Several texts in one: Walk of the program's coded, where there is no fault. Conditions as stated; Walk of the document's coded. Conditions as stated. -/
import Derived.Test.YtkbmgakehlmcnaaMtq12
namespace Go.Proofs.Ytkbmgakehlmcnaa
open Go.RowKit Kc
theorem codK_succ {m : Int} {c s : Nat} {back : Bool} {k v b : List UInt8} {P : List (Int × Int)} {q : Nat} (h : q < P.length) :
    codK m c s back k v b (P.take (q + 1)) = codS m c s back k v b (codK m c s back k v b (P.take q)) (P.getD q (0, 0)) := by
  unfold codK
  rw [foldl_take _ _ _ _ (0, 0) h]
theorem chain_take : ∀ (P : List (Int × Int)) {lo : Int} (q : Nat), chainS lo P → chainS lo (P.take q) ∧ (q < P.length → endSK lo (P.take q) ≤ (P.getD q (0, 0)).1)
  | [], _, q, _ => by simp [chainS]
  | p :: r, lo, 0, ⟨h1, h2, h3⟩ => ⟨trivial, fun _ => by simpa [endSK] using h1⟩
  | p :: r, lo, q + 1, ⟨h1, h2, h3⟩ => by
    obtain ⟨i1, i2⟩ := chain_take r q h3
    refine ⟨⟨h1, h2, i1⟩, fun hq => ?_⟩
    rw [List.take_succ_cons, endSK]
    have := i2 (by simpa using hq)
    simpa [List.getD] using this
theorem codK_part {m : Int} {c s : Nat} {back : Bool} {k v b : List UInt8} {P : List (Int × Int)} {q : Nat} (hP : chainS 0 P) (hm : ∀ p ∈ P, p.2 ≤ (b.length : Int)) (hq : q < P.length) :
    (codK m c s back k v b (P.take q)).1.length = b.length ∧ (codK m c s back k v b (P.take q)).1.drop (P.getD q (0, 0)).1.toNat = b.drop (P.getD q (0, 0)).1.toNat := by
  obtain ⟨h1, h2⟩ := chain_take P q hP
  obtain ⟨h3, h4⟩ := codK_rest m c s back k v b (P.take q) (b, 0) 0 h1 (Int.le_refl _) (fun p hp => hm p (List.mem_of_mem_take hp)) rfl rfl
  have h5 := h2 hq
  have h6 := (chainS_le _ h1).1
  refine ⟨h3, ?_⟩
  have e : (P.getD q (0, 0)).1.toNat = (endSK 0 (P.take q)).toNat + ((P.getD q (0, 0)).1.toNat - (endSK 0 (P.take q)).toNat) := by omega
  unfold codK
  rw [e, ← List.drop_drop, h4, List.drop_drop]
theorem codK_len {m : Int} {c s : Nat} {back : Bool} {k v b : List UInt8} {P : List (Int × Int)} (hP : chainS 0 P) (hm : ∀ p ∈ P, p.2 ≤ (b.length : Int)) : (codK m c s back k v b P).1.length = b.length :=
  (codK_rest m c s back k v b P (b, 0) 0 hP (Int.le_refl _) hm rfl rfl).1
theorem codK_t {m : Int} {c s : Nat} {back : Bool} {k v b : List UInt8} {N : Nat} : ∀ (P : List (Int × Int)) (st : List UInt8 × Nat), (∀ p ∈ P, p.2 ≤ (N : Int)) → (P.foldl (codS m c s back k v b) st).2 ≤ st.2 + N * P.length
  | [], st, _ => by simp
  | p :: r, st, h => by
    have ih := codK_t (m := m) (c := c) (s := s) (back := back) (k := k) (v := v) (b := b) (N := N) r (codS m c s back k v b st p) (fun q hq => h q (List.mem_cons_of_mem _ hq))
    have hp := h p (by simp)
    rw [List.foldl_cons, List.length_cons, Nat.mul_add]
    have e : (codS m c s back k v b st p).2 = st.2 + (p.2.toNat - p.1.toNat) := rfl
    rw [e] at ih
    omega
theorem own_ne8 {α β : Type} {w : World} {b1 b2 : Nat} {t1 t2 : TypeId} {s1 s2 : Nat} {n1 : α → List Value} {n2 : β → List Value} {v1 v2 : Value} {xs : List α} {ys : List β} (h1 : Own w b1 t1 s1 n1 v1 xs) (h2 : Own w b2 t2 s2 n2 v2 ys) (hne : t1 ≠ t2) :
    v1.ownBlock = none ∨ v1.ownBlock ≠ v2.ownBlock := by
  rcases h1.2 with ⟨rfl, _⟩ | ⟨g, cap, cur, rfl, _, hh, _⟩
  · exact .inl rfl
  · right
    rcases h2.2 with ⟨rfl, _⟩ | ⟨g', cap', cur', rfl, _, hh', _⟩
    · simp [Value.ownBlock]
    · intro e
      have e' : g = g' := by simpa [Value.ownBlock] using e
      subst e'
      rw [hh] at hh'
      injection hh' with hh'
      injection hh' with _ ht
      exact hne ht
theorem genBlk {n : Nat} {Q : Exit → Act → World → Prop} {e : Exit} {a : Act} {w : World} (h : ∀ W, W = w → Exit.inBlock n Q e a W) : Exit.inBlock n Q e a w := h w rfl
theorem spl_zero (xs : List UInt8) (a : Nat) : spl xs a [] = xs := by simp [spl]
theorem spl_get {xs b X : List UInt8} {a j : Nat} (hX : X.length = j) (ha : a ≤ xs.length) (h : xs.drop a = b.drop a) : (spl xs a X).getD (a + j) 0 = b.getD (a + j) 0 := by
  have h1 : (xs.drop a)[j]? = (b.drop a)[j]? := by rw [h]
  rw [List.getElem?_drop, List.getElem?_drop] at h1
  unfold spl
  rw [List.getD_eq_getElem?_getD, List.getD_eq_getElem?_getD, List.getElem?_append_right (by rw [List.length_take]; omega), List.length_take, Nat.min_eq_left ha, List.getElem?_append_right (by omega), hX, List.getElem?_drop, show a + j + (a + j - a - j) = a + j by omega, h1]
set_option maxRecDepth 100000 in
set_option maxHeartbeats 8000000 in
theorem keyCoded_ok (back : Bool) {A1 A2 A3 A4 : Option Addr} {c1 c2 c3 c4 n n4 cn sn : Nat} {k v b : List UInt8} {l : List (Int × Int)} {m : Int} {w : World} (h1 : At w 1 e8 A1 16 c1 k) (h2 : At w 1 e8 A2 8 c2 v) (h3 : At w 1 e8 A3 n c3 b) (h4 : At w 2 e2 A4 n4 c4 l) (hF : codF m (cn : Int) (sn : Int) 16 8 n l = 0) :
    Calls Try.prog 18 #[schV m (cn : Int) (sn : Int), .slice A1 16 c1, .slice A2 8 c2, .slice A3 n c3, .slice A4 n4 c4, .func (Fn.func (oneF back)) #[] #[]] w
      fun e w' => ∃ A c', e = .returned (.tuple #[.slice A n c', .int .i64 0]) ∧ At w' 1 e8 A n c' (codK m cn sn back k v b (partsP l (n : Int))).1 ∧ Ext w w' ∧ ∀ x, A = some x → w.heap.size ≤ x.block := by
  obtain ⟨i0, hi0, hz0, hz1, hz2⟩ := info_parts Try.infoK5
  obtain ⟨hs0, hmo, hl0⟩ := codF_zero hF
  obtain ⟨_, _, hn⟩ := modeF_zero hmo
  obtain ⟨hsub, _⟩ := listF_zero hl0
  obtain ⟨hm, hm1, hc, hs, hc0⟩ := schF_zero hs0
  have hbl := hide h3.len
  have HC := hide (fun W => keyScheme_any m (cn : Int) (sn : Int) W)
  have HL := hide (fun W (hx : Ext w W) => keyList_any (h4.ext hx) (n : Int))
  have HP := hide (fun W (hx : Ext w W) => keyParts_any (h4.ext hx) hsub (n : Int))
  have HMEM := hide (fun p hp => parts_mem (p := p) hl0 (by omega) hp)
  have HCH := hide (parts_chain hl0 (by omega)).1
  have HC0 : Hid (cn = 0 → sn = 0) := hide (fun h => by have := hc0 (by omega); omega)
  rw [hs0] at HC
  rw [hl0] at HL
  generalize partsP l (n : Int) = P at *
  have H1 := hide h1; have H2 := hide h2; have H3 := hide h3
  clear hF hs0 hl0 hsub h1 h2 h3 h4 hm1 hc0 hmo
  go_enter Try.func18, Try.ntmps18
  go_wp2_with (first | ((go_at_call 39; refine (HC.out _).mono ?_); rintro e w1 ⟨rfl, e1⟩; have E1 := hide (Ext.trans (Ext.alloc w (.cells #[.int .i64 m, .int .i64 (cn : Int), .int .i64 (sn : Int)] 27)) e1); have F1 := hide e1; clear e1) | ((go_at_call 40; refine (modeFault_ok _ _ _ _ _ _ _ hn _).mono ?_); rintro e w' ⟨rfl, rfl⟩))
  refine (first2_any (x := 0) (y := 0) ((Blk.new w1 _ _).cell 0) ((Blk.new w1 _ _).cell 1)).mono ?_
  rintro e w' ⟨rfl, rfl⟩
  have E2 := hide (Ext.trans E1.out (Ext.alloc w1 (.cells #[.int .i64 0, .int .i64 0] 31)))
  go_wp2_with fail
  refine (HL.out _ E2.out).mono ?_
  rintro e w3 ⟨rfl, e3⟩
  have E3 := hide (Ext.trans E2.out e3)
  have F3 := hide (Ext.trans (Ext.trans F1.out (Ext.alloc w1 (.cells #[.int .i64 0, .int .i64 0] 31))) e3)
  have z3 := F3.out.size
  simp only [World.size_alloc] at z3
  clear e3 E1 E2 F1
  have B3 := hide (H3.out.ext E3.out)
  go_wp2_with (at_builtin; refine wpList_append_at _ rfl (.const (.slice none 0 0)) (.tmp 42) 28 rfl w3.heap.size 5 i0 _ 1 Try.underlying28 hi0 hz0 hz1 hz2 rfl (by omega) len_e8 one_e8 (.slice none 0 0) [] rfl (Own.nil _ _ _ _ _) A3 n c3 b rfl B3.out ?b1 ?b2 ?b3 ?_)
  case b1 => simp; unfold maxLen; omega
  case b2 => simp; omega
  case b3 => exact Nat.le_refl _
  intro v4 w4 o4 g4 _ _
  have X4 : Ext w3 w4 := (Own.nil w3 w3.heap.size 5 1 e8).below (Ext.refl w3) g4 (Nat.le_refl _)
  have z4 := X4.size
  have o4' : Own w4 w3.heap.size 5 1 e8 v4 b := o4
  obtain ⟨Ao, C, hv4, _⟩ := o4'.at_ len_e8
  rw [hbl.out] at hv4
  rw [hv4] at o4' ⊢
  have O4 := hide o4'
  have E4 := hide (Ext.trans E3.out X4); have F4 := hide (Ext.trans F3.out X4)
  clear o4 g4 X4 o4' hv4 E3 F3 B3
  go_wp2_with fail
  have hns := newStream_any (A1 := A1) (n1 := 16) (c1 := c1) (p := 0) (k := k) (H2.out.ext E4.out)
  refine (show Calls Try.prog 42 #[.slice A1 16 c1, .slice A2 8 c2, .int .i64 0] w4 _ from hns).mono ?_
  clear hns
  rintro e w5 ⟨gs, rfl, hg5, hs5, e5⟩
  have O5 := hide (O4.out.ext e5)
  have S5 := hide hs5
  have hgl5 := hs5.lt
  have E5 := hide (Ext.trans E4.out e5); have F5 := hide (Ext.trans F4.out e5)
  have z5 := e5.size
  clear hs5 e5 E4 F4
  go_wp2_with fail
  refine (HP.out _ E5.out).mono ?_
  rintro e w6 ⟨Ap, np, cp, rfl, ap, hnp, e6, hap⟩
  have hlp := hide ap.len
  have hgA : ∃ g, (Ao = some ⟨g, 0, none⟩ ∨ Ao = none) ∧ w.heap.size < g ∧ g ≠ gs ∧ (∀ x, Ap = some x → x.block ≠ g) := by
    rcases O4.out.2 with ⟨hv, _⟩ | ⟨g, cap, cur, hv, hb, hgb, _⟩
    · injection hv with h1 _ _
      refine ⟨gs + 1 + (Ap.map (·.block)).getD 0, .inr h1, by omega, by omega, fun x hx => by subst hx; simp only [Option.map_some, Option.getD_some]; omega⟩
    · injection hv with h1 _ _
      have hlt4 : g < w4.heap.size := (O4.out.lt g (by rw [h1]; rfl)).2
      refine ⟨g, .inl h1, by omega, by omega, fun x hx => by have := hap x hx; omega⟩
  obtain ⟨g, hgo, hgw, hgs, hgp⟩ := hgA
  have S6 : Hid (CodSt w w6 Ao g gs n C m (cn : Int) (sn : Int) A1 c1 k v Ap np cp P (codK m cn sn back k v b (P.take 0)).2 (codK m cn sn back k v b (P.take 0)).1) := hide
    ⟨(O5.out.ext e6).more (by omega), hgo, fun _ => S5.out.ext e6, ap, (Blk.new w 27 #[.int .i64 m, .int .i64 (cn : Int), .int .i64 (sn : Int)]).ext (Ext.trans F5.out e6), Ext.trans E5.out e6, fun x hx => ⟨hgp x hx, by have := hap x hx; omega⟩, ⟨hgw, by omega, hgs⟩⟩
  clear O4 O5 S5 E5 F5 ap e6 hap hgo hgw hgs hgp z3 z5 hg5 hgl5
  go_wp2_with fail
  go_loopw [52] (fun ri wr => ∃ q : Nat, q ≤ np ∧ ri = .int .i64 q ∧ Hid (CodSt w wr Ao g gs n C m (cn : Int) (sn : Int) A1 c1 k v Ap np cp P (codK m cn sn back k v b (P.take q)).2 (codK m cn sn back k v b (P.take q)).1)) (fun ri _ => np - (intOf ri).toNat)
  case atStart => exact ⟨0, by omega, rfl, S6⟩
  case round =>
    obtain ⟨q, hq, rfl, HS⟩ := hrel
    clear S6
    by_cases hlt : q < np
    · obtain ⟨pb, off, hApe, _⟩ := HS.out.parts.addr (by omega)
      subst hApe
      obtain ⟨a1, a2⟩ := HS.out.parts.pair hlt
      obtain ⟨p1, p2, p3⟩ := HMEM.out _ (getD_mem P q (0, 0) (by rw [hlp.out]; exact hlt))
      have HPT := codK_part (m := m) (c := cn) (s := sn) (back := back) (k := k) (v := v) (b := b) HCH.out (fun p hp => by rw [hbl.out]; exact (HMEM.out p hp).2.2) (q := q) (by rw [hlp.out]; exact hlt)
      have htb := codK_t (m := m) (c := cn) (s := sn) (back := back) (k := k) (v := v) (b := b) (N := n) (P.take q) (b, 0) (fun p hp => (HMEM.out p (List.mem_of_mem_take hp)).2.2)
      have hsuc := codK_succ (m := m) (c := cn) (s := sn) (back := back) (k := k) (v := v) (b := b) (P := P) (q := q) (by rw [hlp.out]; exact hlt)
      have htk : (P.take q).length ≤ 501 := by rw [List.length_take]; omega
      have htb2 : (codK m cn sn back k v b (P.take q)).2 ≤ 50100000 := by
        have := Nat.mul_le_mul hn htk
        unfold codK
        omega
      generalize P.getD q (0, 0) = y at *
      obtain ⟨y0, y1⟩ := y
      simp only at a1 a2 p1 p2 p3 HPT
      obtain ⟨a, rfl⟩ : ∃ a : Nat, y0 = (a : Int) := ⟨y0.toNat, by omega⟩
      obtain ⟨d, rfl⟩ : ∃ d : Nat, y1 = (d : Int) := ⟨y1.toNat, by omega⟩
      rw [hbl.out, Int.toNat_natCast] at HPT
      obtain ⟨hx1, hx2⟩ := HPT
      have hsuc2 : codK m cn sn back k v b (P.take (q + 1)) = (spl (codK m cn sn back k v b (P.take q)).1 a (codG m cn sn back k v (codK m cn sn back k v b (P.take q)).2 ((b.drop a).take (d - a))), (codK m cn sn back k v b (P.take q)).2 + (d - a)) := by
        rw [hsuc]; unfold codS; simp only [Int.toNat_natCast]
      have HSUC := hide hsuc2
      clear hsuc hsuc2 htb htk
      generalize (codK m cn sn back k v b (P.take q)).2 = t at *
      generalize (codK m cn sn back k v b (P.take q)).1 = xs at *
      have HX1 := hide hx1; have HX2 := hide hx2
      have hxl : ((b.drop a).take (d - a)).length = d - a := by rw [List.length_take, List.length_drop, hbl.out]; omega
      have HXL := hide hxl
      obtain ⟨wo, hwo⟩ : ∃ wo, wo = wr := ⟨_, rfl⟩
      subst hwo
      have hB := HS.out.box
      have k0 := hB.cell 0; have k1 := hB.cell 1; have k2 := hB.cell 2
      simp only [List.getElem?_toArray, List.getElem?_cons_zero, List.getElem?_cons_succ] at k0 k1 k2
      have S7 := hide (HS.out.next (Ext.alloc wo (.cells #[.int .i64 (a : Int), .int .i64 (d : Int)] 106)))
      have L7 : Hid (Blk (wo.alloc (.cells #[.int .i64 (a : Int), .int .i64 (d : Int)] 106)) wo.heap.size 106 #[.int .i64 (a : Int), .int .i64 (d : Int)]) := hide (Blk.new _ _ _)
      have hBlt := hB.lt
      have HSW := hide HS.out
      clear hx1 hx2 hxl hB HS
      rcases hm with rfl | rfl
      · have hst0 : CodSt w (wo.alloc (.cells #[.int .i64 (a : Int), .int .i64 (d : Int)] 106)) Ao g gs n C 1 (cn : Int) (sn : Int) A1 c1 k v (some ⟨pb, off, none⟩) np cp P (t + 0) (spl xs a (xrL ((b.drop a).take 0) (strL k v t 0))) := by
          have e : xrL ((b.drop a).take 0) (strL k v t 0) = [] := rfl
          rw [e, spl_zero]; exact S7.out
        have S8 := hide hst0
        clear S7 hst0
        go_wp2_with fail
        go_loopw [20] (fun ri wi => ∃ j : Nat, j ≤ d - a ∧ ri = .int .i64 ((a : Int) + (j : Int)) ∧ Hid (CodSt w wi Ao g gs n C 1 (cn : Int) (sn : Int) A1 c1 k v (some ⟨pb, off, none⟩) np cp P (t + j) (spl xs a (xrL ((b.drop a).take j) (strL k v t j)))) ∧ Hid (Blk wi wo.heap.size 106 #[.int .i64 (a : Int), .int .i64 (d : Int)])) (fun ri _ => d - (intOf ri).toNat)
        case atStart => exact ⟨0, by omega, by simp, S8, L7⟩
        case round =>
          obtain ⟨j, hj, rfl, HSi, HLi⟩ := hrel
          clear S8 L7
          have l0 := HLi.out.cell 0
          have l1 := HLi.out.cell 1
          simp only [List.getElem?_toArray, List.getElem?_cons_zero, List.getElem?_cons_succ] at l0 l1
          by_cases hjd : j < d - a
          · have hAo := HSi.out.some_ (by omega)
            subst hAo
            have hat := HSi.out.own.atS len_e8
            have hcell := hat.byteK (k := a + j) (by omega)
            have hfz := HSi.out.own.frozen1 (a + j)
            have hXl : (xrL ((b.drop a).take j) (strL k v t j)).length = j := by rw [length_xrL, List.length_take, List.length_drop, hbl.out]; omega
            rw [spl_get hXl (by rw [HX1.out]; omega) HX2.out, Nat.zero_add] at hcell
            have HST := hide (xr_step k v b xs a t j (by rw [hbl.out]; omega) (by rw [HX1.out, hbl.out]))
            have HSd := hide (HSi.out.next (Ext.drew wr))
            have hnx := next_any (H1.out.ext HSd.out.ext) (HSd.out.str rfl) (by omega)
            obtain ⟨yb, hyb⟩ : ∃ yb, yb = b.getD (a + j) 0 := ⟨_, rfl⟩
            obtain ⟨sb, hsb⟩ : ∃ sb, sb = byteAt k v (t + j) := ⟨_, rfl⟩
            rw [← hyb, ← hsb] at HST
            rw [← hyb] at hcell
            rw [← hsb] at hnx
            have HNX := hide hnx
            have i0 : (0 : Int) ≤ (a : Int) + (j : Int) := by omega
            have i1 : (a : Int) + (j : Int) < (n : Int) := by omega
            have i2 : ((a : Int) + (j : Int)).toNat = a + j := by omega
            have hgo := (HSi.out.own.lt g rfl).2
            have hgsl : gs < wr.heap.size := (HSi.out.str rfl).lt
            have hgg := HSi.out.gw.2.2
            clear hnx hat hXl hyb hsb
            go_wp2_with fail
            go_region_with (((go_at_call 44; with_reducible refine HNX.out.mono ?_); rintro e w4 ⟨rfl, hs4, g4⟩; have hc4 : w4.cell? ⟨g, a + j, none⟩ = some (B8 yb) := (World.cell?_of_block (g4.block g hgo (fun e => hgg (Option.some.inj e)))).trans hcell; have S4 := hide (HSd.out.took hs4 g4); have hf4 := S4.out.own.frozen1 (a + j); have z4 := g4.size))
            all_goals
              refine genBlk fun W7 h7 => ?_
              have o7 := Own.set1 len_e8 S4.out.own (a + j) (yb ^^^ sb) (B8 (yb ^^^ sb)) rfl
              rw [HST.out] at o7
              have SX := S4.out.wrote o7 (grownSet _ _ _ _)
              have hgw1 := (HSW.out.own.lt g rfl).2
              have hgw2 := (HSW.out.str rfl).lt
              have LX := (HLi.out.drew.grown g4 (fun e => by have := Option.some.inj e; omega)).far (p := ⟨g, a + j, none⟩) (by simp; omega) (B8 (yb ^^^ sb))
              rw [u8_xor'] at h7
              have S9 : Hid (CodSt w W7 (some ⟨g, 0, none⟩) g gs n C 1 (cn : Int) (sn : Int) A1 c1 k v (some ⟨pb, off, none⟩) np cp P (t + (j + 1)) (spl xs a (xrL ((b.drop a).take (j + 1)) (strL k v t (j + 1))))) := hide (by
                rw [h7]
                first
                  | exact SX
                  | exact SX.next (Ext.drew _))
              have L9 : Hid (Blk W7 wo.heap.size 106 #[.int .i64 (a : Int), .int .i64 (d : Int)]) := hide (by
                rw [h7]
                first
                  | exact LX
                  | exact LX.drew)
              clear h7 SX LX o7 hf4 hc4 S4 hcell hfz HSi HLi HSd l0 l1 g4 hs4
              go_wp2
              go_roundw
              case rel =>
                first
                  | exact ⟨j + 1, by omega, int_val (by omega), S9, L9⟩
                  | ((repeat apply Exists.intro); exact ⟨⟨j + 1, by omega, int_val (by omega), S9, L9⟩, rfl⟩)
              case measure => simp [intOf]; omega
          · have hjj : j = d - a := by omega
            have hcod : codG 1 cn sn back k v t ((b.drop a).take (d - a)) = xrL ((b.drop a).take (d - a)) (strL k v t (d - a)) := by
              unfold codG; rw [if_pos rfl, HXL.out]
            have S9 : Hid (CodSt w wr Ao g gs n C 1 (cn : Int) (sn : Int) A1 c1 k v (some ⟨pb, off, none⟩) np cp P (codK 1 cn sn back k v b (P.take (q + 1))).2 (codK 1 cn sn back k v b (P.take (q + 1))).1) := hide (by
              rw [HSUC.out]
              simp only
              rw [hcod, ← hjj]
              exact HSi.out)
            clear hjj hcod HSi
            go_wp2
            go_roundw
            case rel =>
              first
                | exact ⟨q + 1, by omega, by go_num, S9⟩
                | ((repeat apply Exists.intro); exact ⟨⟨q + 1, by omega, by go_num, S9⟩, rfl⟩)
            case measure => simp [intOf]; omega
      · have HBL := hide (blocks_any (wo.alloc (.cells #[.int .i64 (a : Int), .int .i64 (d : Int)] 106)) 2 (cn : Int) (sn : Int) (a : Int) (d : Int) hc hs p1 p2 (by omega))
        have hN : (((d : Int) - (a : Int)) / 8).toNat = (d - a) / 8 := by omega
        rw [hN] at HBL
        have HBF := hide (blkF_blkN cn sn a HC0.out ((d - a) / 8))
        have HPL := hide (inPl_part (length_stX back k) (c := cn) (e := cn + sn) a d xs v (by omega) (by rw [HX1.out]; omega))
        have HMB := hide (fun x (hx : x ∈ blkF cn (cn + sn) a ((d - a) / 8) 0) => show a ≤ x ∧ x + 8 ≤ d by
          have h1 : ((x : Nat) : Int) ∈ blkN (cn : Int) (sn : Int) (a : Int) ((d - a) / 8) := by rw [HBF.out]; exact List.mem_map_of_mem hx
          obtain ⟨i, g1, g2, g3⟩ := blkN_mem.1 h1
          omega)
        have hlb := length_blkN (cn : Int) (sn : Int) (a : Int) ((d - a) / 8)
        clear hN
        go_wp2_with fail
        refine HBL.out.mono ?_
        rintro e w8 ⟨Ab, nb, kb, rfl, ob, e8'⟩
        rw [HBF.out] at ob hlb
        have hnb := ob.len len64
        rw [List.length_map] at hnb hlb
        have OB := hide ob
        have S8 := hide (S7.out.next e8')
        have HNB := hide hnb
        have hnb2 : nb ≤ 12500 := by omega
        clear ob e8' hnb hlb S7 L7 HBL
        generalize hbf : blkF cn (cn + sn) a ((d - a) / 8) 0 = bf at *
        clear hbf
        go_wp2_with fail
        go_loopw [21, 80] (fun rl rj wi => ∃ (j : Nat) (lA : Option Addr) (lc : Nat) (last ys : List UInt8), j ≤ nb ∧ rj = .int .i64 j ∧ rl = .slice lA 8 lc ∧ Hid (At wi 1 e8 lA 8 lc last) ∧
          Hid (CodSt w wi Ao g gs n C 2 (cn : Int) (sn : Int) A1 c1 k v (some ⟨pb, off, none⟩) np cp P t ys) ∧ Hid (Own wi (wo.heap.size + 1) 3 1 e64 (.slice Ab nb kb) (bf.map fun q => ((q : Nat) : Int))) ∧ Hid ((bf.take j).foldl (inPl (stX back k)) (xs, v) = (ys, last)) ∧ Hid (ys.length = n)) (fun _ rj _ => nb - (intOf rj).toNat)
        case atStart => exact ⟨0, A2, c2, v, xs, by omega, rfl, rfl, hide (H2.out.ext S8.out.ext), S8, hide (by simpa using OB.out), hide (by simp), HX1⟩
        case round =>
          obtain ⟨j, lA, lc, last, ys, hj, rfl, rfl, HLa, HSi, HBi, HFo, HYL⟩ := hrel
          by_cases hlj : j < nb
          · obtain ⟨bb, offb, hAb, _⟩ := (HBi.out.atS len64).addr (by omega)
            subst hAb
            have a3 := (HBi.out.atS len64).numK hlj
            obtain ⟨q1, q2⟩ := HMB.out _ (getD_mem bf j 0 (by rw [HNB.out]; exact hlj))
            have hgm : (bf.map fun q => ((q : Nat) : Int)).getD j 0 = ((bf.getD j 0 : Nat) : Int) := by
              simp [List.getD, show j < bf.length by rw [HNB.out]; exact hlj]
            rw [hgm] at a3
            have hstep : (bf.take (j + 1)).foldl (inPl (stX back k)) (xs, v) = inPl (stX back k) (ys, last) (bf.getD j 0) := by
              rw [foldl_take _ _ _ _ 0 (by rw [HNB.out]; exact hlj), HFo.out]
            generalize bf.getD j 0 = u at *
            have hAo := HSi.out.some_ (by omega)
            subst hAo
            have hat := HSi.out.own.atS len_e8
            have hNC := hat.le
            have hCb := hat.boundc
            have ic : (u : Int) ≤ (C : Int) := by omega
            have jc : ¬ C = u := by omega
            have i2 : (u : Int).toNat = u := by omega
            have HST := hide hstep
            have hON := one_any back (H1.out.ext HSi.out.ext) HLa.out HSi.out.own (off := u) (by omega)
            have HON := hide hON
            clear hat hgm hstep hON
            have hone : oneF back = 19 ∨ oneF back = 30 := by cases back <;> simp [oneF]
            generalize oneF back = F at *
            rcases hone with rfl | rfl
            all_goals
             go_wp2_with fail
             refine HON.out.mono ?_
             rintro e w9 ⟨A9, c9, rfl, la9, o9, g9⟩
             have hy9 : (spl ys u (stX back k ((ys.drop u).take 8) last).1).length = n := by rw [length_spl _ _ _ (by rw [length_stX, HYL.out]; omega), HYL.out]
             have S9 := hide (HSi.out.wrote o9 g9)
             have B9 := hide (HBi.out.kept g9 (own_ne8 HBi.out HSi.out.own (by decide)))
             have L9 := hide la9
             have F9 : Hid ((bf.take (j + 1)).foldl (inPl (stX back k)) (xs, v) = (spl ys u (stX back k ((ys.drop u).take 8) last).1, (stX back k ((ys.drop u).take 8) last).2)) := hide HST.out
             have Y9 := hide hy9
             clear hy9 o9 g9 la9 HST HFo HLa HSi HBi
             go_wp2
             go_roundw
             case rel =>
               first
                 | exact ⟨j + 1, A9, c9, _, _, by omega, by go_num, rfl, L9, S9, B9, F9, Y9⟩
                 | ((repeat apply Exists.intro); exact ⟨⟨j + 1, A9, c9, _, _, by omega, by go_num, rfl, L9, S9, B9, F9, Y9⟩, rfl⟩)
             case measure => simp [intOf]; omega
          · have hfull : bf.take j = bf := List.take_of_length_le (by have := HNB.out; omega)
            have S9 : Hid (CodSt w wr Ao g gs n C 2 (cn : Int) (sn : Int) A1 c1 k v (some ⟨pb, off, none⟩) np cp P (codK 2 cn sn back k v b (P.take (q + 1))).2 (codK 2 cn sn back k v b (P.take (q + 1))).1) := hide (by
              have hyy : ys = spl xs a (gG (stX back k) cn (cn + sn) ((d - a) / 8) 0 v ((xs.drop a).take (d - a))) := by
                rw [← HPL.out, ← hfull, HFo.out]
              have hcod : codG 2 cn sn back k v t ((b.drop a).take (d - a)) = gG (stX back k) cn (cn + sn) ((d - a) / 8) 0 v ((b.drop a).take (d - a)) := by
                unfold codG; rw [if_neg (by decide), HXL.out]
              rw [HSUC.out]
              simp only
              rw [hcod, ← HX2.out, ← hyy]
              exact ⟨HSi.out.own, HSi.out.ho, fun h => absurd h (by decide), HSi.out.parts, HSi.out.box, HSi.out.ext, HSi.out.away, HSi.out.gw⟩)
            clear hfull HSi HFo HLa HBi
            go_wp2
            go_roundw
            case rel =>
              first
                | exact ⟨q + 1, by omega, by go_num, S9⟩
                | ((repeat apply Exists.intro); exact ⟨⟨q + 1, by omega, by go_num, S9⟩, rfl⟩)
            case measure => simp [intOf]; omega
    · have hfull : P.take q = P := by rw [List.take_of_length_le (by have := hlp.out; omega)]
      rw [hfull] at HS
      have HV := hide (HS.out.own.atS len_e8)
      have HE := hide HS.out.ext
      have HG : Hid (∀ x, Ao = some x → w.heap.size ≤ x.block) := hide (fun x hx => by
        have h1 := HS.out.ho
        have h2 := HS.out.gw.1
        rcases h1 with h1 | h1
        · rw [hx] at h1
          injection h1 with h1
          subst h1
          exact Nat.le_of_lt h2
        · rw [hx] at h1; cases h1)
      clear hfull HS
      go_wp2
      go_ret2
      exact ⟨_, _, rfl, HV.out, HE.out, HG.out⟩
structure CodRt (w wr : World) (Ao : Option Addr) (n C : Nat) (m c s : Int) (Ap : Option Addr) (np cp : Nat) (P : List (Int × Int)) (xs : List UInt8) : Prop where
  own : Own wr w.heap.size 5 1 e8 (.slice Ao n C) xs
  parts : At wr 2 e2 Ap np cp P
  box : Blk wr w.heap.size 27 #[.int .i64 m, .int .i64 c, .int .i64 s]
  ext : Ext w wr
  away : ∀ a x, Ap = some a → Ao = some x → a.block ≠ x.block
  gw : ∀ x, Ao = some x → w.heap.size < x.block
section
variable {w wr w' : World} {Ao : Option Addr} {n C : Nat} {m c s : Int} {Ap : Option Addr} {np cp : Nat} {P : List (Int × Int)} {xs : List UInt8}
theorem CodRt.next (h : CodRt w wr Ao n C m c s Ap np cp P xs) (he : Ext wr w') : CodRt w w' Ao n C m c s Ap np cp P xs :=
  ⟨h.own.ext he, h.parts.ext he, h.box.ext he, Ext.trans h.ext he, h.away, h.gw⟩
theorem CodRt.wrote {g : Nat} (hA : Ao = some ⟨g, 0, none⟩) (h : CodRt w wr Ao n C m c s Ap np cp P xs) {ys : List UInt8} (ho : Own w' w.heap.size 5 1 e8 (.slice Ao n C) ys) (hg : wr.grownBy w' (some g)) : CodRt w w' Ao n C m c s Ap np cp P ys :=
  ⟨ho, h.parts.grown hg (fun a ha e => h.away a _ ha hA (Option.some.inj e)),
   h.box.grown hg (fun e => by have := h.gw _ hA; have := Option.some.inj e; simp only at *; omega),
   Below.grown h.ext hg h.ext.size (fun q e => by have := h.gw _ hA; have := Option.some.inj e; simp only at *; omega), h.away, h.gw⟩
theorem CodRt.some_ (h : CodRt w wr Ao n C m c s Ap np cp P xs) (hn : 0 < n) : ∃ g, Ao = some ⟨g, 0, none⟩ ∧ g < wr.heap.size := by
  have hl := h.own.len len_e8
  obtain ⟨g, e, _, h2⟩ := h.own.where_ hn hl
  exact ⟨g, e, h2⟩
end
end Go.Proofs.Ytkbmgakehlmcnaa
