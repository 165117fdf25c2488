/- Walk of the document's Touched. Conditions: none. -/
import Derived.Test.YtifmgngmkajahaaSchemesE
import Derived.Test.YtifmgngmkajahaaMem
namespace Go.Proofs.Ytifmgngmkajahaa
open Go.RowKit

theorem infoBool : (Try.prog.info? 4).map (fun i => (i.zero, i.size, i.bytes)) = some (some (.bool false), 1, 1) := by kernel_rfl
/-- A truth value, its cell. -/
abbrev eb (x : Bool) : List Value := [.bool x]
theorem len_eb (x : Bool) : (eb x).length = 1 := rfl
/-- The first so many places. -/
def bl (b : Int → Bool) (Z : Nat) : List Bool := (List.range Z).map fun (i : Nat) => b (i : Int)
theorem length_bl (b : Int → Bool) (Z : Nat) : (bl b Z).length = Z := by simp [bl]
theorem bl_get (b : Int → Bool) (Z i : Nat) (h : i < Z) : (bl b Z).getD i false = b (i : Int) := by simp [bl, List.getD, h]
theorem bl_zero (Z : Nat) : (madeCells #[Value.bool false] Z).toList = (bl (fun _ => false) Z).flatMap eb := by
  have h : ∀ n : Nat, (bl (fun _ => false) n).flatMap eb = List.replicate n (Value.bool false) := by
    intro n
    induction n with
    | zero => rfl
    | succ n ih =>
      have e : bl (fun _ => false) (n + 1) = bl (fun _ => false) n ++ [false] := by simp [bl, List.range_succ]
      rw [e, List.flatMap_append, ih, List.replicate_succ']; rfl
  rw [h]
  apply List.ext_getElem
  · simp [madeCells]
  · intro i h1 h2
    simp [madeCells, Nat.mod_one]
theorem bl_set (b b' : Int → Bool) (Z i : Nat) (v : Bool) (hv : b' (i : Int) = v) (h : ∀ q : Nat, q ≠ i → b' (q : Int) = b (q : Int)) : (bl b Z).set i v = bl b' Z := by
  apply List.ext_getElem
  · simp [bl]
  · intro j h1 h2
    rw [List.getElem_set]
    simp only [bl, List.getElem_map, List.getElem_range]
    split
    · rename_i e; subst e; exact hv.symm
    · rename_i e; exact (h j (fun e2 => e e2.symm)).symm
theorem At.bit {w : World} {g n c : Nat} {l : List Bool} (h : At w 1 eb (some ⟨g, 0, none⟩) n c l) {k : Nat} (hk : k < n) : w.cell? ⟨g, k, none⟩ = some (.bool (l.getD k false)) := by
  have hl := h.len
  obtain ⟨b', off', e, hc⟩ := h.cells k _ (List.getElem?_eq_getElem (by omega))
  injection e with e
  injection e with e1 e2
  subst e1 e2
  have := hc 0 _ rfl
  rw [show l.getD k false = l[k]'(by omega) by simp [List.getD, show k < l.length by omega]]
  simpa using this
/-- What is there while the places are filled. -/
structure TouSt (w0 wr : World) (g Z : Nat) (m c s : Int) (Ap : Option Addr) (np cp : Nat) (P : List (Int × Int)) (bits : List Bool) : Prop where
  own : Own wr w0.heap.size 4 1 eb (.slice (some ⟨g, 0, none⟩) Z Z) bits
  parts : At wr 2 e2 Ap np cp P
  box : Blk wr w0.heap.size 57 #[.int .i64 m, .int .i64 c, .int .i64 s]
  ext : Ext w0 wr
  away : ∀ a, Ap = some a → a.block ≠ g
  gw : w0.heap.size < g
theorem TouSt.next {w0 wr w' : World} {g Z : Nat} {m c s : Int} {Ap : Option Addr} {np cp : Nat} {P : List (Int × Int)} {bits : List Bool} (h : TouSt w0 wr g Z m c s Ap np cp P bits) (he : Ext wr w') : TouSt w0 w' g Z m c s Ap np cp P bits :=
  ⟨h.own.ext he, h.parts.ext he, h.box.ext he, Ext.trans h.ext he, h.away, h.gw⟩
theorem TouSt.store {w0 wr : World} {g Z : Nat} {m c s : Int} {Ap : Option Addr} {np cp : Nat} {P : List (Int × Int)} {bits : List Bool} (h : TouSt w0 wr g Z m c s Ap np cp P bits) (i : Nat) (v : Bool) :
    TouSt w0 (wr.setCell ⟨g, i, none⟩ (.bool v)) g Z m c s Ap np cp P (bits.set i v) :=
  ⟨Own.set1 len_eb h.own i v (.bool v) rfl,
   ⟨h.parts.len, h.parts.le, h.parts.max, h.parts.none_, fun k x hx => by
      obtain ⟨b, off, e, hc⟩ := h.parts.cells k x hx
      refine ⟨b, off, e, fun j u hu => ?_⟩
      have hne := h.away _ e
      rw [World.cell?_setCell_other _ _ _ _ (by intro e2; injection e2 with e2 _; exact hne e2.symm)]
      exact hc j u hu⟩,
   h.box.far (by have := h.gw; simp; omega) _, Below.setCell h.ext (by have := h.gw; simp; omega) _, h.away, h.gw⟩
theorem TouSt.lt {w0 wr : World} {g Z : Nat} {m c s : Int} {Ap : Option Addr} {np cp : Nat} {P : List (Int × Int)} {bits : List Bool} (h : TouSt w0 wr g Z m c s Ap np cp P bits) : g < wr.heap.size :=
  (h.own.lt g rfl).2

set_option maxRecDepth 100000 in
set_option maxHeartbeats 2000000 in
theorem refTouched_bad {A : Option Addr} {n c : Nat} {l : List (Int × Int)} {m cr sk z : Int} {w : World} (h : At w 2 e2 A n c l) (hF : touF m cr sk z l ≠ 0) :
    Calls Try.prog 45 #[schV m cr sk, .int .i64 z, .slice A n c] w (Gives 2 e2 w (touV m cr sk z l) (touF m cr sk z l)) := by
  have hV : touV m cr sk z l = [] := by unfold touV; rw [if_pos hF]
  have HV := hide hV
  have HC := hide (fun W => refScheme_any m cr sk W)
  have HL := hide (fun W (hx : Ext w W) => refList_any (h.ext hx) z)
  by_cases h1 : schF m cr sk = 0
  · by_cases h2 : z < 0 ∨ 100000 < z
    · have HQ : Hid (touF m cr sk z l = 1) := hide (by unfold touF; rw [if_neg (by omega), if_pos h2])
      rw [h1] at HC
      clear hF hV h1 h
      go_enter Try.func45, Try.ntmps45
      go_wp2_with (first | ((go_at_call 47; refine (HC.out _).mono ?_); rintro e w1 ⟨rfl, e1⟩; skip) | ((go_at_call 92; with_reducible refine (within_yes ?_ _).mono ?_); (focus omega); rintro e w' ⟨rfl, rfl⟩) | ((go_at_call 92; with_reducible refine (within_no ?_ _).mono ?_); (focus omega); rintro e w' ⟨rfl, rfl⟩))
      go_ret2
      exact gives_nil' HQ.out HV.out (Ext.trans (Ext.alloc _ _) e1)
    · have HQ : Hid (touF m cr sk z l = listF l z) := hide (by unfold touF; rw [if_neg (by omega), if_neg h2])
      have h3 : (listF l z != 0) = true := by rw [bne_iff_ne, ← HQ.out]; exact hF
      have h2' : 0 ≤ z ∧ z ≤ 100000 := by omega
      rw [h1] at HC
      generalize listF l z = r at *
      clear hF hV h1 h h2
      go_enter Try.func45, Try.ntmps45
      go_wp2_with (first | ((go_at_call 47; refine (HC.out _).mono ?_); rintro e w1 ⟨rfl, e1⟩; have E1 := hide (Ext.trans (Ext.alloc w (.cells #[.int .i64 m, .int .i64 cr, .int .i64 sk] 57)) e1); clear e1) | ((go_at_call 92; with_reducible refine (within_yes ?_ _).mono ?_); (focus omega); rintro e w' ⟨rfl, rfl⟩) | ((go_at_call 92; with_reducible refine (within_no ?_ _).mono ?_); (focus omega); rintro e w' ⟨rfl, rfl⟩) | ((go_at_call 106; refine (HL.out _ E1.out).mono ?_); rintro e w2 ⟨rfl, e2⟩; skip))
      go_ret2
      exact gives_nil' HQ.out HV.out (Ext.trans E1.out e2)
  · have HQ : Hid (touF m cr sk z l = schF m cr sk) := hide (by unfold touF; rw [if_pos h1])
    have h3 : (schF m cr sk != 0) = true := by rw [bne_iff_ne]; exact h1
    generalize schF m cr sk = r at *
    clear hF hV h1 h
    go_enter Try.func45, Try.ntmps45
    go_wp2_with (first | ((go_at_call 47; refine (HC.out _).mono ?_); rintro e w1 ⟨rfl, e1⟩; skip) | ((go_at_call 92; with_reducible refine (within_yes ?_ _).mono ?_); (focus omega); rintro e w' ⟨rfl, rfl⟩) | ((go_at_call 92; with_reducible refine (within_no ?_ _).mono ?_); (focus omega); rintro e w' ⟨rfl, rfl⟩))
    go_ret2
    exact gives_nil' HQ.out HV.out (Ext.trans (Ext.alloc _ _) e1)
theorem bitsOf_succ {m c s : Int} {P : List (Int × Int)} {k : Nat} (h : k < P.length) : bitsOf m c s (P.take (k + 1)) = bitF m c s (bitsOf m c s (P.take k)) (P.getD k (0, 0)) := by
  unfold bitsOf
  rw [foldl_take _ _ _ _ (0, 0) h]
/-- The places while a part is filled. -/
def midB (m c s : Int) (b : Int → Bool) (x y : Int) (i : Int) : Int → Bool := fun q => if x ≤ q ∧ q < i then partBit m c s (x, y) q else b q

theorem genBlock {n : Nat} {Q : Exit → Act → World → Prop} {e : Exit} {a : Act} {w : World} (h : ∀ W, W = w → Exit.inBlock n Q e a W) : Exit.inBlock n Q e a w := h w rfl
theorem mid_set {m c s : Int} {b : Int → Bool} {a d i Z : Nat} {v : Bool} (h1 : a ≤ i) (hv : partBit m c s ((a : Int), (d : Int)) (i : Int) = v) :
    (bl (midB m c s b (a : Int) (d : Int) (i : Int)) Z).set i v = bl (midB m c s b (a : Int) (d : Int) ((i : Int) + 1)) Z := by
  apply bl_set
  · unfold midB; rw [if_pos ⟨by omega, by omega⟩]; exact hv
  · intro q hq
    unfold midB
    by_cases h3 : (a : Int) ≤ (q : Int) ∧ (q : Int) < (i : Int)
    · rw [if_pos h3, if_pos ⟨h3.1, by omega⟩]
    · rw [if_neg h3, if_neg (by omega)]
set_option maxRecDepth 100000 in
set_option maxHeartbeats 8000000 in
theorem refTouched_ok {A : Option Addr} {n c Z : Nat} {l : List (Int × Int)} {m cr sk : Int} {w : World} (h : At w 2 e2 A n c l) (hF : touF m cr sk (Z : Int) l = 0) :
    Calls Try.prog 45 #[schV m cr sk, .int .i64 (Z : Int), .slice A n c] w (Gives 2 e2 w (touV m cr sk (Z : Int) l) (touF m cr sk (Z : Int) l)) := by
  obtain ⟨i0, hi0, hz0, hz1, hz2⟩ := info_parts infoBool
  obtain ⟨j0, hj0, hy0, hy1, hy2⟩ := info_parts Try.info33
  obtain ⟨hs0, hz, hl0⟩ := touF_zero hF
  obtain ⟨hsub, _⟩ := listF_zero hl0
  obtain ⟨hm, hm1, hc, hs, hc0⟩ := schF_zero hs0
  have HV : Hid (touV m cr sk (Z : Int) l = runsU (bitsOf m cr sk (partsR l (Z : Int))) Z) := hide (by
    have := touch_same (m := m) (c := cr) (s := sk) hl0 hz.1
    rw [Int.toNat_natCast] at this
    unfold touV; rw [if_neg (by omega), this])
  have HF := hide hF
  have HC := hide (fun W => refScheme_any m cr sk W)
  have HL := hide (fun W (hx : Ext w W) => refList_any (h.ext hx) (Z : Int))
  have HP := hide (fun W (hx : Ext w W) => refParts_any (h.ext hx) hsub (Z : Int))
  have HMEM := hide (fun p (hp : p ∈ partsR l (Z : Int)) => parts_mem (p := p) hl0 hz.1 (by rw [parts_filter hl0] at hp; exact (List.mem_filter.1 hp).1))
  rw [hs0] at HC
  rw [hl0] at HL
  generalize partsR l (Z : Int) = P at *
  clear hF hs0 hl0 hsub h hm1 hc0
  have hz' : Z ≤ 100000 := by omega
  have HQZ := hide hz
  clear hz
  go_enter Try.func45, Try.ntmps45
  go_wp2_with (first | ((go_at_call 47; refine (HC.out _).mono ?_); rintro e w1 ⟨rfl, e1⟩; have E1 := hide (Ext.trans (Ext.alloc w (.cells #[.int .i64 m, .int .i64 cr, .int .i64 sk] 57)) e1); have F1 := hide e1; clear e1) | ((go_at_call 92; with_reducible refine (within_yes ?_ _).mono ?_); (focus omega); rintro e w' ⟨rfl, rfl⟩) | ((go_at_call 92; with_reducible refine (within_no ?_ _).mono ?_); (focus omega); rintro e w' ⟨rfl, rfl⟩) | ((go_at_call 106; refine (HL.out _ E1.out).mono ?_); rintro e w2 ⟨rfl, e2⟩; have E2 := hide (Ext.trans E1.out e2); have F2 := hide (Ext.trans F1.out e2); clear e2) | (at_make; refine wpList_make_full _ rfl _ _ 122 rfl w2.heap.size 4 i0 _ 1 Try.underlying122 hi0 hz0 hz1 _ _ _ _ Z rfl rfl rfl rfl ?b1 ?b2 ?b3 ?_))
  case b1 => rw [hz2]; omega
  case b2 => unfold maxLen; omega
  case b3 => exact Nat.le_refl _
  intro w3 hown hgr
  have x3 : Ext w2 w3 := grown_ext hgr
  have z2 := F2.out.size
  have O3 : Hid (Own w3 w2.heap.size 4 1 eb (.slice (some ⟨w2.heap.size, 0, none⟩) Z Z) (bl (fun _ => false) Z)) := hide (by
    unfold Own
    rw [length_bl, ← bl_zero]
    exact hown)
  have E3 := hide (Ext.trans E2.out x3)
  have F3 := hide (Ext.trans F2.out x3)
  clear hown hgr x3 E2 F2 E1 F1
  go_wp2_with fail
  refine (HP.out _ E3.out).mono ?_
  rintro e w4 ⟨Ap, np, cp, rfl, ap, hnp, e4, hap⟩
  have hlt3 := (O3.out.lt w2.heap.size rfl).2
  have S4 : Hid (TouSt w w4 w2.heap.size Z m cr sk Ap np cp P (bl (bitsOf m cr sk (P.take 0)) Z)) := hide ⟨(O3.out.ext e4).more (by simp at z2; omega), ap, (Blk.new w 57 #[.int .i64 m, .int .i64 cr, .int .i64 sk]).ext (Ext.trans F3.out e4), Ext.trans E3.out e4, fun a ha => by have := hap a ha; omega, by simp at z2; omega⟩
  have hlp := hide ap.len
  clear O3 E3 F3 ap e4 hap hlt3
  go_wp2_with fail
  go_loopw [39] (fun ri wr => ∃ k : Nat, k ≤ np ∧ ri = .int .i64 k ∧ Hid (TouSt w wr w2.heap.size Z m cr sk Ap np cp P (bl (bitsOf m cr sk (P.take k)) Z))) (fun ri _ => np - (intOf ri).toNat)
  case atStart => exact ⟨0, by omega, rfl, S4⟩
  case round =>
    obtain ⟨k, hk, rfl, HS⟩ := hrel
    clear S4
    by_cases hlt : k < np
    · obtain ⟨b, off, hApe, _⟩ := HS.out.parts.addr (by omega)
      subst hApe
      obtain ⟨a1, a2⟩ := HS.out.parts.pair hlt
      obtain ⟨p1, p2, p3⟩ := HMEM.out _ (getD_mem P k (0, 0) (by rw [hlp.out]; exact hlt))
      have HSUC := hide (bitsOf_succ (m := m) (c := cr) (s := sk) (P := P) (k := k) (by rw [hlp.out]; exact hlt))
      generalize P.getD k (0, 0) = y at *
      obtain ⟨y0, y1⟩ := y
      simp only at a1 a2 p1 p2 p3
      obtain ⟨a, rfl⟩ : ∃ a : Nat, y0 = (a : Int) := ⟨y0.toNat, by omega⟩
      obtain ⟨d, rfl⟩ : ∃ d : Nat, y1 = (d : Int) := ⟨y1.toNat, by omega⟩
      obtain ⟨wo, hwo⟩ : ∃ wo, wo = wr := ⟨_, rfl⟩
      subst hwo
      have hbs : Hid (bl (bitsOf m cr sk (P.take k)) Z = bl (midB m cr sk (bitsOf m cr sk (P.take k)) (a : Int) (d : Int) (a : Int)) Z) := hide (by
        apply List.map_congr_left
        intro q _
        unfold midB
        rw [if_neg (by omega)])
      have S5 := hide (HS.out.next (Ext.alloc wo (.cells #[.int .i64 (a : Int), .int .i64 (d : Int)] 33)))
      have L5 : Hid (Blk (wo.alloc (.cells #[.int .i64 (a : Int), .int .i64 (d : Int)] 33)) wo.heap.size 33 #[.int .i64 (a : Int), .int .i64 (d : Int)]) := hide (Blk.new _ _ _)
      have hg5 := HS.out.lt
      rw [hbs.out] at S5
      go_wp2_with fail
      go_loopw [13] (fun ri wi => ∃ i : Nat, a ≤ i ∧ i ≤ d ∧ ri = .int .i64 i ∧ Hid (TouSt w wi w2.heap.size Z m cr sk (some ⟨b, off, none⟩) np cp P (bl (midB m cr sk (bitsOf m cr sk (P.take k)) (a : Int) (d : Int) (i : Int)) Z)) ∧ Hid (Blk wi wo.heap.size 33 #[.int .i64 (a : Int), .int .i64 (d : Int)])) (fun ri _ => d - (intOf ri).toNat)
      case atStart => exact ⟨a, by omega, by omega, rfl, S5, L5⟩
      case round =>
        obtain ⟨i, hi1, hi2, rfl, HSi, HLi⟩ := hrel
        have l0 := HLi.out.cell 0
        have l1 := HLi.out.cell 1
        simp only [List.getElem?_toArray, List.getElem?_cons_zero, List.getElem?_cons_succ] at l0 l1
        by_cases hid : i < d
        · have B := HSi.out.box
          have k0 := B.cell 0; have k1 := B.cell 1; have k2 := B.cell 2
          simp only [List.getElem?_toArray, List.getElem?_cons_zero, List.getElem?_cons_succ] at k0 k1 k2
          have hcell := (HSi.out.own.atS len_eb).bit (k := i) (by omega)
          have hfz := HSi.out.own.frozen1 i
          have hgl := HSi.out.lt
          obtain ⟨K, hK⟩ : ∃ K : Nat, ((i : Int) - (a : Int)) / 8 = (K : Int) := ⟨(((i : Int) - (a : Int)) / 8).toNat, by omega⟩
          have i1 : (i : Int) < (Z : Int) := by omega
          have i0' : (0 : Int) ≤ (i : Int) := by omega
          clear B
          have i2 : IntKind.i64.wrap ((i : Int) + 1) = (i : Int) + 1 := by rw [IntKind.wrap_i64]; omega
          rcases hm with rfl | rfl
          · have j0 : True := trivial
            have HSET : Hid ((bl (midB 1 cr sk (bitsOf 1 cr sk (P.take k)) (a : Int) (d : Int) (i : Int)) Z).set i true = bl (midB 1 cr sk (bitsOf 1 cr sk (P.take k)) (a : Int) (d : Int) ((i : Int) + 1)) Z) := hide (mid_set hi1 (by unfold partBit; simp))
            go_wp2_with fail
            go_region
            refine genBlock fun W7 h7 => ?_
            have S7 : Hid (TouSt w W7 w2.heap.size Z 1 cr sk (some ⟨b, off, none⟩) np cp P (bl (midB 1 cr sk (bitsOf 1 cr sk (P.take k)) (a : Int) (d : Int) ((i : Int) + 1)) Z)) := hide (by
              rw [h7, ← HSET.out]
              exact ((HSi.out).store i true).next (Ext.drew _))
            have L7 : Hid (Blk W7 wo.heap.size 33 #[.int .i64 (a : Int), .int .i64 (d : Int)]) := hide (by
              rw [h7]
              exact (HLi.out.far (by simp; omega) _).drew)
            clear h7 hfz hcell HSET
            go_wp2
            go_roundw
            case rel =>
              first
                | exact ⟨i + 1, by omega, by omega, by go_num, S7, L7⟩
                | ((repeat apply Exists.intro); exact ⟨⟨i + 1, by omega, by omega, by go_num, S7, L7⟩, rfl⟩)
            case measure => simp [intOf]; omega
          · by_cases hwh : (a : Int) + 8 * (K : Int) + 8 ≤ (d : Int)
            · have d1 : decide ((a : Int) + 8 * (K : Int) + 8 ≤ (d : Int)) = true := by simpa using hwh
              by_cases hc0 : cr = 0
              · have j1 : (cr == 0) = true := by simp [hc0]
                have HSET : Hid ((bl (midB 2 cr sk (bitsOf 2 cr sk (P.take k)) (a : Int) (d : Int) (i : Int)) Z).set i true = bl (midB 2 cr sk (bitsOf 2 cr sk (P.take k)) (a : Int) (d : Int) ((i : Int) + 1)) Z) := hide (mid_set hi1 (by unfold partBit selB2; simp only; rw [hK]; simp [hc0, hwh]))
                clear hc0
                go_wp2_with fail
                go_region
                refine genBlock fun W7 h7 => ?_
                have S7 : Hid (TouSt w W7 w2.heap.size Z 2 cr sk (some ⟨b, off, none⟩) np cp P (bl (midB 2 cr sk (bitsOf 2 cr sk (P.take k)) (a : Int) (d : Int) ((i : Int) + 1)) Z)) := hide (by
                  rw [h7, ← HSET.out]
                  exact ((HSi.out).store i true).next (Ext.drew _))
                have L7 : Hid (Blk W7 wo.heap.size 33 #[.int .i64 (a : Int), .int .i64 (d : Int)]) := hide (by
                  rw [h7]
                  exact (HLi.out.far (by simp; omega) _).drew)
                clear h7 hfz hcell HSET
                go_wp2
                go_roundw
                case rel =>
                  first
                    | exact ⟨i + 1, by omega, by omega, by go_num, S7, L7⟩
                    | ((repeat apply Exists.intro); exact ⟨⟨i + 1, by omega, by omega, by go_num, S7, L7⟩, rfl⟩)
                case measure => simp [intOf]; omega
              · have j1 : (cr == 0) = false := by simp [hc0]
                have j2 : 1 ≤ cr + sk := by omega
                have j3 : IntKind.i64.wrap (cr + sk) = cr + sk := by rw [IntKind.wrap_i64]; omega
                have j6 : cr + sk ≠ 0 := by omega
                by_cases hsl : (K : Int) % (cr + sk) < cr
                · have j4 : decide ((K : Int) % (cr + sk) < cr) = true := by simpa using hsl
                  have j5 : decide ((K : Int).tmod (cr + sk) < cr) = true := by rw [Int.tmod_eq_emod_of_nonneg (by omega)]; exact j4
                  have HSET : Hid ((bl (midB 2 cr sk (bitsOf 2 cr sk (P.take k)) (a : Int) (d : Int) (i : Int)) Z).set i true = bl (midB 2 cr sk (bitsOf 2 cr sk (P.take k)) (a : Int) (d : Int) ((i : Int) + 1)) Z) := hide (mid_set hi1 (by unfold partBit selB2; simp only; rw [hK]; simp [hwh, hsl]))
                  clear hc0 hsl
                  go_wp2_with fail
                  go_region
                  refine genBlock fun W7 h7 => ?_
                  have S7 : Hid (TouSt w W7 w2.heap.size Z 2 cr sk (some ⟨b, off, none⟩) np cp P (bl (midB 2 cr sk (bitsOf 2 cr sk (P.take k)) (a : Int) (d : Int) ((i : Int) + 1)) Z)) := hide (by
                    rw [h7, ← HSET.out]
                    exact ((HSi.out).store i true).next (Ext.drew _))
                  have L7 : Hid (Blk W7 wo.heap.size 33 #[.int .i64 (a : Int), .int .i64 (d : Int)]) := hide (by
                    rw [h7]
                    exact (HLi.out.far (by simp; omega) _).drew)
                  clear h7 hfz hcell HSET
                  go_wp2
                  go_roundw
                  case rel =>
                    first
                      | exact ⟨i + 1, by omega, by omega, by go_num, S7, L7⟩
                      | ((repeat apply Exists.intro); exact ⟨⟨i + 1, by omega, by omega, by go_num, S7, L7⟩, rfl⟩)
                  case measure => simp [intOf]; omega
                · have j4 : decide ((K : Int) % (cr + sk) < cr) = false := by simpa using hsl
                  have j5 : decide ((K : Int).tmod (cr + sk) < cr) = false := by rw [Int.tmod_eq_emod_of_nonneg (by omega)]; exact j4
                  have HSET : Hid ((bl (midB 2 cr sk (bitsOf 2 cr sk (P.take k)) (a : Int) (d : Int) (i : Int)) Z).set i false = bl (midB 2 cr sk (bitsOf 2 cr sk (P.take k)) (a : Int) (d : Int) ((i : Int) + 1)) Z) := hide (mid_set hi1 (by unfold partBit selB2; simp only; rw [hK]; simp [hwh, hsl, hc0]))
                  clear hc0 hsl
                  go_wp2_with fail
                  go_region
                  refine genBlock fun W7 h7 => ?_
                  have S7 : Hid (TouSt w W7 w2.heap.size Z 2 cr sk (some ⟨b, off, none⟩) np cp P (bl (midB 2 cr sk (bitsOf 2 cr sk (P.take k)) (a : Int) (d : Int) ((i : Int) + 1)) Z)) := hide (by
                    rw [h7, ← HSET.out]
                    exact ((HSi.out).store i false).next (Ext.drew _))
                  have L7 : Hid (Blk W7 wo.heap.size 33 #[.int .i64 (a : Int), .int .i64 (d : Int)]) := hide (by
                    rw [h7]
                    exact (HLi.out.far (by simp; omega) _).drew)
                  clear h7 hfz hcell HSET
                  go_wp2
                  go_roundw
                  case rel =>
                    first
                      | exact ⟨i + 1, by omega, by omega, by go_num, S7, L7⟩
                      | ((repeat apply Exists.intro); exact ⟨⟨i + 1, by omega, by omega, by go_num, S7, L7⟩, rfl⟩)
                  case measure => simp [intOf]; omega
            · have d1 : decide ((a : Int) + 8 * (K : Int) + 8 ≤ (d : Int)) = false := by simpa using hwh
              have HSET : Hid ((bl (midB 2 cr sk (bitsOf 2 cr sk (P.take k)) (a : Int) (d : Int) (i : Int)) Z).set i false = bl (midB 2 cr sk (bitsOf 2 cr sk (P.take k)) (a : Int) (d : Int) ((i : Int) + 1)) Z) := hide (mid_set hi1 (by unfold partBit selB2; simp only; rw [hK]; simp [hwh]))
              go_wp2_with fail
              go_region
              refine genBlock fun W7 h7 => ?_
              have S7 : Hid (TouSt w W7 w2.heap.size Z 2 cr sk (some ⟨b, off, none⟩) np cp P (bl (midB 2 cr sk (bitsOf 2 cr sk (P.take k)) (a : Int) (d : Int) ((i : Int) + 1)) Z)) := hide (by
                rw [h7, ← HSET.out]
                exact ((HSi.out).store i false).next (Ext.drew _))
              have L7 : Hid (Blk W7 wo.heap.size 33 #[.int .i64 (a : Int), .int .i64 (d : Int)]) := hide (by
                rw [h7]
                exact (HLi.out.far (by simp; omega) _).drew)
              clear h7 hfz hcell HSET
              go_wp2
              go_roundw
              case rel =>
                first
                  | exact ⟨i + 1, by omega, by omega, by go_num, S7, L7⟩
                  | ((repeat apply Exists.intro); exact ⟨⟨i + 1, by omega, by omega, by go_num, S7, L7⟩, rfl⟩)
              case measure => simp [intOf]; omega
        · have hfull : bl (midB m cr sk (bitsOf m cr sk (P.take k)) (a : Int) (d : Int) (i : Int)) Z = bl (bitsOf m cr sk (P.take (k + 1))) Z := by
            apply List.map_congr_left
            intro q _
            rw [HSUC.out]
            unfold midB bitF
            rw [show (i : Int) = (d : Int) by omega]
          have S8 := hide HSi.out
          rw [hfull] at S8
          clear hfull HSi
          go_wp2
          go_roundw
          case rel =>
            first
              | exact ⟨k + 1, by omega, by go_num, S8⟩
              | ((repeat apply Exists.intro); exact ⟨⟨k + 1, by omega, by go_num, S8⟩, rfl⟩)
          case measure => simp [intOf]; omega
    · have hfull : P.take k = P := by rw [List.take_of_length_le (by have := hlp.out; omega)]
      rw [hfull] at HS
      have O6 := hide HS.out.own
      have E6 := hide HS.out.ext
      obtain ⟨wo, hwo⟩ : ∃ wo, wo = wr := ⟨_, rfl⟩
      subst hwo
      clear hfull hlp HMEM HS
      generalize bitsOf m cr sk P = bt at *
      go_wp2_with fail
      go_loopw [16, 94] (fun ro ri wi => ∃ (i q : Nat) (Ao : Option Addr) (co : Nat), i ≤ Z ∧ ri = .int .i64 i ∧ ro = .slice Ao q co ∧ q ≤ i ∧ Hid (Own wi wo.heap.size 33 2 e2 (.slice Ao q co) (runsU bt i)) ∧ Hid (Ext wo wi)) (fun _ ri _ => Z - (intOf ri).toNat)
      case atStart => exact ⟨0, 0, none, 0, by omega, rfl, rfl, by omega, hide (Own.nil _ _ _ _ _), hide (Ext.refl _)⟩
      case round =>
        obtain ⟨i, q, Ao, co, hi, rfl, rfl, hq, HO, HX⟩ := hrel
        by_cases hlti : i < Z
        · have OT := hide (O6.out.ext HX.out)
          have c0 := (OT.out.atS len_eb).bit hlti
          rw [bl_get _ _ _ hlti] at c0
          have hlq := HO.out.len len_e2
          have hstep : runsU bt (i + 1) = stepR bt (runsU bt i) i := rfl
          cases hbi : bt (i : Int) with
          | false =>
            rw [hbi] at c0
            have hs1 : runsU bt (i + 1) = runsU bt i := by rw [hstep]; unfold stepR; rw [if_pos hbi]
            have O8 := hide HO.out
            rw [← hs1] at O8
            clear hs1 hstep hlq HO hbi
            go_wp2
            go_roundw
            case rel =>
              first
                | exact ⟨i + 1, q, Ao, co, by omega, by go_num, rfl, by omega, O8, HX⟩
                | ((repeat apply Exists.intro); exact ⟨⟨i + 1, q, Ao, co, by omega, by go_num, rfl, by omega, O8, HX⟩, rfl⟩)
            case measure => simp [intOf]; omega
          | true =>
            rw [hbi] at c0
            have hinv := (runs_inv bt i).2
            rcases Nat.eq_zero_or_pos i with hi0 | hi0
            · subst hi0
              have hs1 : runsU bt (0 + 1) = runsU bt 0 ++ [(((0 : Nat) : Int), ((0 : Nat) : Int) + 1)] := by rw [hstep, stepR_new hbi (fun h => absurd h.1 (by omega))]
              have HS1 := hide hs1
              have HLQ := hide hlq
              have A7 := hide (At.pair1 wr ((0 : Nat) : Int) (((0 : Nat) : Int) + 1) 33)
              have O7 := hide (HO.out.ext (Ext.alloc wr (.cells #[.int .i64 ((0 : Nat) : Int), .int .i64 (((0 : Nat) : Int) + 1)] 33)))
              have E7 := hide (ext_alloc HX.out (.cells #[.int .i64 ((0 : Nat) : Int), .int .i64 (((0 : Nat) : Int) + 1)] 33))
              have z7 := E7.out.size
              generalize runsU bt 0 = R at *
              clear hs1 hstep hlq HO hbi OT hinv
              go_wp2_with (at_builtin; refine wpList_append_at _ rfl (.tmp 99) (.tmp 104) 58 rfl wo.heap.size 33 j0 _ 16 Try.underlying58 hj0 hy0 hy1 hy2 rfl (by omega) len_e2 one_e2 _ R rfl O7.out (some ⟨wr.heap.size, 0, none⟩) 1 1 [(((0 : Nat) : Int), ((0 : Nat) : Int) + 1)] rfl A7.out ?d1 ?d2 ?d3 ?_)
              case d1 => rw [HLQ.out]; unfold maxLen; omega
              case d2 => rw [HLQ.out]; omega
              case d3 => exact z7
              intro v8 w8 o8 g8 _ _
              have E8 : Hid (Ext wo w8) := hide (O7.out.below E7.out g8 (Nat.le_refl _))
              have o8 : Own w8 wo.heap.size 33 2 e2 v8 (runsU bt (0 + 1)) := by rw [HS1.out]; exact o8
              obtain ⟨A8, c8, hv8, a8⟩ := o8.at_ len_e2
              have hl8 : (runsU bt (0 + 1)).length = q + 1 := by rw [HS1.out, List.length_append, HLQ.out]; rfl
              rw [hl8] at hv8
              subst hv8
              have O8 := hide o8
              clear o8 g8 O7 E7 z7 A7 a8 hl8
              go_wp2
              go_roundw
              case rel =>
                first
                  | exact ⟨0 + 1, q + 1, A8, c8, by omega, by go_num, rfl, by omega, O8, E8⟩
                  | ((repeat apply Exists.intro); exact ⟨⟨0 + 1, q + 1, A8, c8, by omega, by go_num, rfl, by omega, O8, E8⟩, rfl⟩)
              case measure => simp [intOf]; omega
            · have j1 : (0 : Int) < (i : Int) := by omega
              have j2 : IntKind.i64.wrap ((i : Int) - 1) = (i : Int) - 1 := by rw [IntKind.wrap_i64]; omega
              have j3 : ((i : Int) - 1).toNat = i - 1 := by omega
              have j4 : 0 ≤ (i : Int) - 1 := by omega
              have j5 : (i : Int) - 1 < (Z : Int) := by omega
              have j6 : 1 ≤ (i : Int) := by omega
              have j7 : (i : Int) ≤ (Z : Int) := by omega
              have c1 := (OT.out.atS len_eb).bit (k := i - 1) (by omega)
              rw [bl_get _ _ _ (by omega), show (((i - 1 : Nat)) : Int) = (i : Int) - 1 by omega] at c1
              cases hbp : bt ((i : Int) - 1) with
              | true =>
                rw [hbp] at c1
                obtain ⟨hne, hla⟩ := hinv.2 ⟨hi0, hbp⟩
                have hq0 : 0 < q := by rw [← hlq]; exact List.length_pos_iff.2 hne
                obtain ⟨g2, hAo, hg1, hg2⟩ := HO.out.where2 hq0
                subst hAo
                have hs1 : runsU bt (i + 1) = (runsU bt i).set (q - 1) (((runsU bt i).getD (q - 1) (0, 0)).1, (i : Int) + 1) := by
                  rw [hstep, stepR_ext hbi ⟨hi0, hbp⟩, setTo_def, hlq]
                have hset := HO.out.setB (q - 1) ((i : Int) + 1)
                rw [← hs1] at hset
                have HST := hide hset
                have hfz := HO.out.frozen2
                obtain ⟨b1, b2⟩ := (HO.out.atS len_e2).pair (k := q - 1) (by omega)
                simp only [Nat.zero_add] at b1 b2
                generalize ((runsU bt i).getD (q - 1) (0, 0)).2 = t2 at *
                generalize ((runsU bt i).getD (q - 1) (0, 0)).1 = t1 at *
                have m2 : IntKind.i64.wrap ((q : Int) - 1) = (q : Int) - 1 := by rw [IntKind.wrap_i64]; omega
                have m3 : ((q : Int) - 1).toNat = q - 1 := by omega
                have m4 : 0 ≤ (q : Int) - 1 := by omega
                have m5 : (q : Int) - 1 < (q : Int) := by omega
                have m6 : 1 ≤ (q : Int) := by omega
                clear hs1 hset hstep hlq HO hbi OT hinv hbp hne hla
                go_wp2
                go_roundw
                case rel =>
                  first
                    | exact ⟨i + 1, q, _, co, by omega, by go_num, rfl, by omega, HST, hide (Below.setCell HX.out (by simp; omega) _)⟩
                    | ((repeat apply Exists.intro); exact ⟨⟨i + 1, q, _, co, by omega, by go_num, rfl, by omega, HST, hide (Below.setCell HX.out (by simp; omega) _)⟩, rfl⟩)
                case measure => simp [intOf]; omega
              | false =>
                rw [hbp] at c1
                have hs1 : runsU bt (i + 1) = runsU bt i ++ [((i : Int), (i : Int) + 1)] := by rw [hstep, stepR_new hbi (fun h => by rw [hbp] at h; exact absurd h.2 (by decide))]
                have HS1 := hide hs1
                have HLQ := hide hlq
                have A7 := hide (At.pair1 wr (i : Int) ((i : Int) + 1) 33)
                have O7 := hide (HO.out.ext (Ext.alloc wr (.cells #[.int .i64 (i : Int), .int .i64 ((i : Int) + 1)] 33)))
                have E7 := hide (ext_alloc HX.out (.cells #[.int .i64 (i : Int), .int .i64 ((i : Int) + 1)] 33))
                have z7 := E7.out.size
                generalize runsU bt i = R at *
                clear hs1 hstep hlq HO hbi OT hinv hbp
                go_wp2_with (at_builtin; refine wpList_append_at _ rfl (.tmp 99) (.tmp 104) 58 rfl wo.heap.size 33 j0 _ 16 Try.underlying58 hj0 hy0 hy1 hy2 rfl (by omega) len_e2 one_e2 _ R rfl O7.out (some ⟨wr.heap.size, 0, none⟩) 1 1 [((i : Int), (i : Int) + 1)] rfl A7.out ?d1 ?d2 ?d3 ?_)
                case d1 => rw [HLQ.out]; unfold maxLen; omega
                case d2 => rw [HLQ.out]; omega
                case d3 => exact z7
                intro v8 w8 o8 g8 _ _
                have E8 : Hid (Ext wo w8) := hide (O7.out.below E7.out g8 (Nat.le_refl _))
                rw [← HS1.out] at o8
                obtain ⟨A8, c8, hv8, a8⟩ := o8.at_ len_e2
                have hl8 : (runsU bt (i + 1)).length = q + 1 := by rw [HS1.out, List.length_append, HLQ.out]; rfl
                rw [hl8] at hv8
                subst hv8
                have O8 := hide o8
                clear o8 g8 O7 E7 z7 A7 a8 hl8
                go_wp2
                go_roundw
                case rel =>
                  first
                    | exact ⟨i + 1, q + 1, A8, c8, by omega, by go_num, rfl, by omega, O8, E8⟩
                    | ((repeat apply Exists.intro); exact ⟨⟨i + 1, q + 1, A8, c8, by omega, by go_num, rfl, by omega, O8, E8⟩, rfl⟩)
                case measure => simp [intOf]; omega
        · have hiz : i = Z := by omega
          subst hiz
          have HQ : Hid (runsU bt i = touV m cr sk (i : Int) l) := hide HV.out.symm
          have HW := hide (HO.out.atS len_e2)
          clear HO
          go_wp2
          go_ret2
          exact gives_at HF.out HQ.out HW.out (Ext.trans E6.out HX.out)
end Go.Proofs.Ytifmgngmkajahaa
