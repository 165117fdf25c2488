/- Walk: readFragment (reference). Conditions as stated. -/
import Derived.Test.YtccmbokodifdoaaColR
import Derived.Test.YtccmbokodifdoaaRfP
import Derived.Test.YtccmbokodifdoaaSmpB
import Derived.Test.YtccmbokodifdoaaFbyP
import Derived.Test.YtccmbokodifdoaaMade
namespace Go.Proofs.Ytccmbokodifdoaa
open Go.RowKit
theorem tw_extR {w W W' : World} {o : Nat} (h : Ext w W) (ht : Tw W W' o none) (ho : w.heap.size ≤ o) : Ext w W' :=
  ⟨ht.os.trans h.os, ht.tape.trans h.tape, ht.output.trans h.output, Nat.le_trans h.size ht.size, fun k hk => (ht.block k (Nat.lt_of_lt_of_le hk h.size) (by omega) (by simp)).trans (h.block k hk)⟩
/-- What is known of the call's own blocks. -/
structure RkI (w W : World) (A : Option Addr) (n c : Nat) (s : Rd) : Prop where
  ext : Ext w W
  res : Blk W w.heap.size 25 #[.int .i64 0, .slice none 0 0]
  rdr : RdrB W (w.heap.size + 1) A n c s
theorem RkI.call {w W W' : World} {A : Option Addr} {n c : Nat} {s s' : Rd} (h : RkI w W A n c s) (hb : RdrB W' (w.heap.size + 1) A n c s') (ht : Tw W W' (w.heap.size + 1) none) : RkI w W' A n c s' :=
  ⟨tw_extR h.ext ht (by omega), ht.blk h.res (by omega) (by simp), hb⟩
theorem RkI.more {w W W' : World} {A : Option Addr} {n c : Nat} {s : Rd} (h : RkI w W A n c s) (he : Ext W W') : RkI w W' A n c s := ⟨Ext.trans h.ext he, h.res.ext he, h.rdr.ext he⟩
structure RkJ (w W : World) (A : Option Addr) (n c gf base : Nat) (num : Int) (s : Rd) (v : Value) (xs : List Smp) : Prop where
  i : RkI w W A n c s
  fb : Blk W gf 25 #[.int .i64 num, v]
  row : Own W base 31 5 eSm v xs
  hgf : w.heap.size + 2 ≤ gf
  hba : gf + 1 ≤ base
theorem RkJ.call {w W W' : World} {A : Option Addr} {n c gf base : Nat} {num : Int} {s s' : Rd} {v : Value} {xs : List Smp} (h : RkJ w W A n c gf base num s v xs) (hb : RdrB W' (w.heap.size + 1) A n c s') (ht : Tw W W' (w.heap.size + 1) none) : RkJ w W' A n c gf base num s' v xs := by
  have h2 := h.hgf
  have hba := h.hba
  have h3 := h.row.lt
  exact ⟨h.i.call hb ht, ht.blk h.fb (by omega) (by simp), h.row.tw ht (fun e => by have := (h3 _ e).1; omega) (fun g _ e => by cases e), h.hgf, h.hba⟩
theorem RkJ.more {w W W' : World} {A : Option Addr} {n c gf base : Nat} {num : Int} {s : Rd} {v : Value} {xs : List Smp} (h : RkJ w W A n c gf base num s v xs) (he : Ext W W') : RkJ w W' A n c gf base num s v xs := ⟨h.i.more he, h.fb.ext he, h.row.ext he, h.hgf, h.hba⟩
theorem RkJ.app {w W Wa W' : World} {A : Option Addr} {n c gf base : Nat} {num : Int} {s : Rd} {v v' : Value} {xs ys : List Smp} (h : RkJ w W A n c gf base num s v xs) (he : Ext W Wa) (ho : Own W' base 31 5 eSm v' ys) (hg : Wa.grownBy W' v.ownBlock) : RkJ w (W'.setCell ⟨gf, 1, none⟩ v') A n c gf base num s v' ys := by
  have h2 := h.hgf
  have hba := h.hba
  have h3 := h.row.lt
  have h4 := ho.lt
  have hn : ∀ g, g ≤ gf → some g ≠ v.ownBlock := fun g hg e => by have := (h3 _ e.symm).1; omega
  have e1 : Ext w W' := (h.row.ext he).below (Ext.trans h.i.ext he) hg (by omega)
  have hset : Tw W' (W'.setCell ⟨gf, 1, none⟩ v') gf none := Tw.set_ _ _ _ _ _
  refine ⟨⟨tw_extR e1 hset (by omega), ((h.i.res.ext he).grown hg (hn _ (by omega))).far (show w.heap.size ≠ gf by omega) _, ((h.i.rdr.ext he).grown hg (hn _ (by omega))).tw hset (by omega) (by simp)⟩, ?_, ho.tw hset (fun e => by have := (h4 _ e).1; omega) (fun g _ e => by cases e), h.hgf, h.hba⟩
  exact ((h.fb.ext he).grown hg (hn _ (Nat.le_refl _))).set_ 1 v'
theorem RkJ.base_ {w W : World} {A : Option Addr} {n c gf base base' : Nat} {num : Int} {s : Rd} (h : RkJ w W A n c gf base num s (.slice none 0 0) []) (hb : base ≤ base') : RkJ w W A n c gf base' num s (.slice none 0 0) [] :=
  ⟨h.i, h.fb, Own.nil _ _ _ _ _, h.hgf, Nat.le_trans h.hba hb⟩
theorem RkJ.store {w W : World} {A : Option Addr} {n c gf base : Nat} {num : Int} {s : Rd} {v : Value} {xs : List Smp} (h : RkJ w W A n c gf base num s v xs) (sb i : Nat) (u : Value) (hs : gf < sb) (hr : v.ownBlock ≠ some sb) : RkJ w (W.setCell ⟨sb, i, none⟩ u) A n c gf base num s v xs := by
  have h2 := h.hgf
  have ht : Tw W (W.setCell ⟨sb, i, none⟩ u) sb none := Tw.set_ _ _ _ _ _
  exact ⟨⟨tw_extR h.i.ext ht (by omega), h.i.res.far (show w.heap.size ≠ sb by omega) _, h.i.rdr.tw ht (by omega) (by simp)⟩, h.fb.far (show gf ≠ sb by omega) _, h.row.tw ht hr (fun g _ e => by cases e), h.hgf, h.hba⟩
theorem keep_set {w W : World} {a b sb i : Nat} {u : Value} (h : ∀ q, a ≤ q → q < b → W.heap[q]? = w.heap[q]?) (hs : b ≤ sb) : ∀ q, a ≤ q → q < b → (W.setCell ⟨sb, i, none⟩ u).heap[q]? = w.heap[q]? :=
  fun q h1 h2 => (Below.heap_setCell W ⟨sb, i, none⟩ u q (by show q ≠ sb; omega)).trans (h q h1 h2)
theorem At.newS (w : World) (x : Smp) (t : TypeId) : At (w.alloc (.cells #[.int .i64 x.time, .int .i64 x.step, .int .i64 x.shift, .int .i64 x.size, .bool x.key] t)) 5 eSm (some ⟨w.heap.size, 0, none⟩) 1 1 [x] :=
  ⟨rfl, Nat.le_refl _, by unfold maxLen; omega, fun h => (by cases h), fun k z hz => ⟨_, _, rfl, fun j u hu => by
    match k, hz with
    | 0, hz =>
      simp at hz; subst hz
      have hb := Blk.new w t #[.int .i64 x.time, .int .i64 x.step, .int .i64 x.shift, .int .i64 x.size, .bool x.key]
      match j, hu with
      | 0, hu => simp at hu; subst hu; exact hb.cell 0
      | 1, hu => simp at hu; subst hu; exact hb.cell 1
      | 2, hu => simp at hu; subst hu; exact hb.cell 2
      | 3, hu => simp at hu; subst hu; exact hb.cell 3
      | 4, hu => simp at hu; subst hu; exact hb.cell 4
      | j + 5, hu => simp at hu
    | k + 1, hz => simp at hz⟩⟩
theorem At.keepG {α : Type} {w w' : World} {sz : Nat} {enc : α → List Value} {A : Option Addr} {n c q : Nat} {xs : List α} (h : At w sz enc A n c xs) (hsz : ∀ x, (enc x).length = sz) (h0 : 0 < sz) (hq : ∀ a, A = some a → q ≤ a.block) (hk : ∀ k, q ≤ k → k < w.heap.size → w'.heap[k]? = w.heap[k]?) : At w' sz enc A n c xs := by
  rcases Nat.eq_zero_or_pos n with h1 | h1
  · have hl := h.len
    obtain rfl : xs = [] := List.eq_nil_of_length_eq_zero (by omega)
    exact ⟨h.len, h.le, h.max, h.none_, fun k x hx => by simp at hx⟩
  · have hb := h.blk_lt hsz h0 h1
    exact h.good (G := fun k => q ≤ k ∧ k < w.heap.size) (fun a ha => ⟨hq a ha, hb a ha⟩) (fun k hk2 => hk k hk2.1 hk2.2)
theorem mapv_get (l : List Nat) (i : Nat) : (l.map (conV false)).getD i 0 = ((l.getD i 0 : Nat) : Int) := by
  rw [List.getD_eq_getElem?_getD, List.getElem?_map, List.getD_eq_getElem?_getD]
  cases l[i]? <;> rfl
/-- What the reference's readFragment gives. -/
def RkGives (w : World) (b : List UInt8) (e : Ending) (w' : World) : Prop := Ext w w' ∧ ∃ N k c, e = .returned (.tuple #[.agg #[.int .i64 ((h1F b).1 : Int), .slice N k c], .int .i64 ((h4F b).1 : Int), .int .i64 (tF b), .int .i64 (badI (endF b))]) ∧ (∀ a, N = some a → w.heap.size ≤ a.block) ∧ ((endF b).bad = false → At w' 5 eSm N k c (smF b))
theorem h3_pos {b : List UInt8} (h : (h3F b).2.bad = false) : (h3F b).2.pos = 14 := by
  have g2 : (h2F b).2.bad = false := rdN_was h
  have g1 : (h1F b).2.bad = false := rdN_was g2
  have key : ∀ (k : Nat) (s : Rd), (rdN b k s).2.bad = false → (rdN b k s).2.pos = s.pos + k := fun k s h => by
    have h1 := rdN_was h
    rcases Nat.lt_or_ge (b.length - s.pos) k with h3 | h3
    · rw [rdN_bad (.inr h3)] at h; cases h
    · rw [rdN_ok h1 h3]
  have e3 := key 2 (h2F b).2 h
  have e2 := key 8 (h1F b).2 g2
  have e1 := key 4 ⟨0, false⟩ g1
  show (rdN b 2 (h2F b).2).2.pos = 14
  rw [e3]
  show (rdN b 8 (h1F b).2).2.pos + 2 = 14
  rw [e2]
  show (rdN b 4 ⟨0, false⟩).2.pos + 8 + 2 = 14
  rw [e1]
theorem byte1 (b : List UInt8) (s : Rd) : ∃ x : UInt8, tkL b 1 s = [x] ∧ x.toNat = (rdN b 1 s).1 := by
  have hl : (tkL b 1 s).length = 1 := tkL_len
  match h : tkL b 1 s, hl with
  | [x], _ =>
    refine ⟨x, rfl, ?_⟩
    rw [← tkL_num, h]
    show x.toNat = 0 * 256 + x.toNat
    omega
/-- The samples that are told. -/
def smK (b : List UInt8) (k : Nat) : List Smp := (smF b).take k
theorem smK_succ {b : List UInt8} {k : Nat} (h : k < nF b) : smK b (k + 1) = smK b k ++ [⟨tmF (tF b) (c1F b (nF b)).1 k, (((c1F b (nF b)).1.getD k 0 : Nat) : Int), (c2F b (nF b)).1.getD k 0, (((c3F b (nF b)).1.getD k 0 : Nat) : Int), (c4F b (nF b)).1.getD k false⟩] := by
  unfold smK
  have hl : (smF b).length = nF b := mkSm_len _ _ _ _ _ _
  rw [List.take_succ_eq_append_getElem (by omega)]
  have := mkSm_get (tm := tmF (tF b) (c1F b (nF b)).1) (st := (c1F b (nF b)).1) (sh := (c2F b (nF b)).1) (sz := (c3F b (nF b)).1) (ky := (c4F b (nF b)).1) h
  rw [← this]
  show _ = _ ++ [(smF b).getD k dS]
  rw [show (smF b).getD k dS = (smF b)[k]'(by omega) by simp [List.getD, hl, h]]
theorem keyF_pre3 {b : List UInt8} {first : Bool} {s : Rd} {i : Nat} : ∀ n, i < n → (keyF b first n s).1.getD i false = (keyF b first (i + 1) s).1.getD i false
  | 0, h => absurd h (Nat.not_lt_zero _)
  | n + 1, h => by
    rcases Nat.eq_or_lt_of_le (Nat.le_of_lt_succ h) with h1 | h1
    · rw [h1]
    · have ih := keyF_pre3 (b := b) (first := first) (s := s) n h1
      have hl := keyF_len b first s n
      conv => lhs; rw [keyF]
      split
      · show ((keyF b first n s).1 ++ [_]).getD i false = _
        rw [getD_snoc, if_pos (by omega)]; exact ih
      · show ((keyF b first n s).1 ++ [_]).getD i false = _
        rw [getD_snoc, if_pos (by omega)]; exact ih
set_option linter.unusedVariables false in
set_option linter.unusedSimpArgs false in
set_option maxRecDepth 100000 in
set_option maxHeartbeats 16000000 in
theorem refreadFrag_any {A : Option Addr} {n c : Nat} {b : List UInt8} {w : World} (h : At w 1 e8 A n c b) :
    Calls Try.prog 36 #[.slice A n c] w (RkGives w b) := by
  have hl := h.len
  have HNE : Hid (0 < n → ∀ a, A = some a → a.block ≠ w.heap.size + 1) := hide (fun hn a ha => by have := h.blk_lt len_e8 (by omega) hn a ha; omega)
  have H := hide h
  have HL := hide hl
  have hp1 := (head_pos b).1
  have hp2 := (head_pos b).2.1
  have hp3 := (head_pos b).2.2.1
  rw [hl] at hp1 hp2 hp3
  have HPC := hide (fun (k : Nat) => (by have := c1_pos b k; have h2 := c2_pos b k; have h3 := c3_pos b k; have h4 := c4_pos b k; have h5 := (head_pos b).2.2.2; rw [hl] at this h2 h3 h4 h5; exact ⟨this, h2, h3, h4, h5⟩ : (c1F b k).2.pos ≤ n ∧ (c2F b k).2.pos ≤ n ∧ (c3F b k).2.pos ≤ n ∧ (c4F b k).2.pos ≤ n ∧ (h4F b).2.pos ≤ n))
  have hv3 : (h3F b).1 < 65536 := rdN_lt (b := b) (k := 2) (h2F b).2 (by omega)
  have hv4 : (h4F b).1 < 256 := rdF_lt _
  have HC1 := hide (fun (W : World) (hI : RkI w W A n c ⟨0, false⟩) => tkN 4 4 rfl hI.rdr (H.out.ext hI.ext) HNE.out (Nat.zero_le _) (by omega))
  have HC2 := hide (fun (W : World) (hI : RkI w W A n c (h1F b).2) => tkN 8 8 rfl hI.rdr (H.out.ext hI.ext) HNE.out hp1 (by omega))
  have HC3 := hide (fun (W : World) (hI : RkI w W A n c (h2F b).2) => tkN 2 2 rfl hI.rdr (H.out.ext hI.ext) HNE.out hp2 (by omega))
  have HC4 := hide (fun (W : World) (hI : RkI w W A n c (h3F b).2) => tkN 1 1 rfl hI.rdr (H.out.ext hI.ext) HNE.out hp3 (by omega))
  have HV1 : Hid ((numR (tkL b 4 ⟨0, false⟩) : Int) = ((h1F b).1 : Int)) := hide (by rw [numR_small (by rw [tkL_len]; omega), tkL_num]; rfl)
  have HV2 : Hid (sgnR (tkL b 8 (h1F b).2) = tF b) := hide (by unfold sgnR; rw [tkL_len, if_neg (fun hh => by have := hh.1; omega), tkL_num]; rfl)
  have HV3 : Hid ((numR (tkL b 2 (h2F b).2) : Int) = (nF b : Int)) := hide (by rw [numR_small (by rw [tkL_len]; omega), tkL_num]; rfl)
  have HV4 : Hid (∃ x : UInt8, tkL b 1 (h3F b).2 = [x] ∧ x.toNat = (h4F b).1) := hide (by
    obtain ⟨x, h1, h2⟩ := byte1 b (h3F b).2
    refine ⟨x, h1, ?_⟩
    rw [h2]
    show _ = (rdF b 15 (h3F b).2).1
    unfold rdF; split <;> rfl)
  have HF4 : Hid ((h4F b).2 = if (rdN b 1 (h3F b).2).2.bad = false ∧ 15 < (h4F b).1 then ⟨14, true⟩ else (rdN b 1 (h3F b).2).2) := hide (by
    have e0 : (h4F b) = rdF b 15 (h3F b).2 := rfl
    unfold rdF at e0
    by_cases hc : (rdN b 1 (h3F b).2).2.bad = false ∧ 15 < (rdN b 1 (h3F b).2).1
    · rw [if_pos hc] at e0
      have e1 : (h4F b).1 = (rdN b 1 (h3F b).2).1 := by rw [e0]
      have e2 : (h4F b).2 = ⟨(h3F b).2.pos, true⟩ := by rw [e0]
      rw [e1, if_pos hc, e2, h3_pos (rdN_was hc.1)]
    · rw [if_neg hc] at e0
      have e1 : (h4F b).1 = (rdN b 1 (h3F b).2).1 := by rw [e0]
      rw [e1, if_neg hc, e0])
  clear h hl
  go_enter Try.func36, Try.ntmps36
  go_upto_region 2 with (fail)
  refine gen_wpC fun w1 h1 => ?_
  have I1 : Hid (RkI w w1 A n c ⟨0, false⟩) := hide (by
    rw [h1]
    refine ⟨Ext.trans (Ext.alloc _ _) (Ext.alloc _ _), (Blk.new _ _ _).alloc _, (0 : Int), ?_, fun _ => rfl⟩
    have := Blk.new (w.alloc (.cells #[.int .i64 0, .slice none 0 0] 25)) 108 #[.slice A n c, .int .i64 0, .int .i64 (-1)]
    rw [World.size_alloc] at this
    exact this)
  clear h1
  go_wp2_with fail
  with_reducible refine (HC1.out _ I1.out).mono ?_
  rintro e w2 ⟨⟨T2, tc2, rfl, a2⟩, b2, t2⟩
  have I2 : Hid (RkI w w2 A n c (h1F b).2) := hide (I1.out.call b2 t2)
  have HN2 := hide (number_any a2 (by omega))
  clear a2 b2 t2 I1 HC1
  go_wp2_with fail
  with_reducible refine HN2.out.mono ?_
  rintro e w' ⟨rfl, rfl⟩
  rw [HV1.out]
  have hsz2 := I2.out.rdr.lt
  go_upto_region 3 with (fail)
  refine gen_wpC fun w3 h3 => ?_
  obtain ⟨gf, hgf⟩ : ∃ gf, gf = w2.heap.size := ⟨_, rfl⟩
  rw [← hgf]
  have J3 : Hid (RkJ w w3 A n c gf (gf + 1) ((h1F b).1 : Int) (h1F b).2 (.slice none 0 0) []) := hide (by rw [h3, hgf]; exact ⟨I2.out.more (Ext.alloc _ _), Blk.new _ _ _, Own.nil _ _ _ _ _, by omega, Nat.le_refl _⟩)
  clear h3 hgf I2 hsz2 HN2
  go_wp2_with fail
  with_reducible refine (HC2.out _ J3.out.i).mono ?_
  rintro e w4 ⟨⟨T4, tc4, rfl, a4⟩, b4, t4⟩
  have J4 : Hid (RkJ w w4 A n c gf (gf + 1) ((h1F b).1 : Int) (h2F b).2 (.slice none 0 0) []) := hide (J3.out.call b4 t4)
  have HN4 := hide (signed_any a4 (by omega))
  clear a4 b4 t4 J3 HC2
  go_wp2_with fail
  with_reducible refine HN4.out.mono ?_
  rintro e w' ⟨rfl, rfl⟩
  rw [HV2.out]
  clear HN4
  go_wp2_with fail
  with_reducible refine (HC3.out _ J4.out.i).mono ?_
  rintro e w5 ⟨⟨T5, tc5, rfl, a5⟩, b5, t5⟩
  have J5 : Hid (RkJ w w5 A n c gf (gf + 1) ((h1F b).1 : Int) (h3F b).2 (.slice none 0 0) []) := hide (J4.out.call b5 t5)
  have HN5 := hide (number_any a5 (by omega))
  clear a5 b5 t5 J4 HC3
  go_wp2_with fail
  with_reducible refine HN5.out.mono ?_
  rintro e w' ⟨rfl, rfl⟩
  rw [HV3.out]
  clear HN5
  go_wp2_with fail
  with_reducible refine (HC4.out _ J5.out.i).mono ?_
  rintro e w6 ⟨⟨T6, tc6, rfl, a6⟩, b6, t6⟩
  have J6 : Hid (RkJ w w6 A n c gf (gf + 1) ((h1F b).1 : Int) (rdN b 1 (h3F b).2).2 (.slice none 0 0) []) := hide (J5.out.call b6 t6)
  obtain ⟨xb, hxb, hxn⟩ := HV4.out
  rw [hxb] at a6
  obtain ⟨bT, oT, rfl, _⟩ := a6.addr (by omega)
  have x6 : w6.cell? ⟨bT, oT, none⟩ = some (.int .u8 ((h4F b).1 : Int)) := by
    have := a6.byte (k := 0) (by simp)
    rw [← hxn]
    simpa using this
  obtain ⟨p6, hb6, _⟩ := J6.out.i.rdr
  have c2 : w6.cell? ⟨w.heap.size + 1, 2, none⟩ = some (.int .i64 (badI (rdN b 1 (h3F b).2).2)) := hb6.cell 2
  have z2 : w6.frozen? ⟨w.heap.size + 1, 2, none⟩ = false := hb6.frozen 2
  have HB6 := hide hb6
  clear a6 b6 t6 J5 HC4 hxb hxn hb6 HV1 HV2 HV3 HV4
  have hm256 : (h4F b).1 < 256 := hv4
  have HBN := hide (badI_neg (rdN b 1 (h3F b).2).2)
  with_reducible generalize hmm : (h4F b).1 = m at *
  have HMM := hide hmm
  clear hmm
  have wm : IntKind.i64.wrap (m : Int) = (m : Int) := by rw [IntKind.wrap_i64]; omega
  go_upto_region 6 with (fail)
  go_cut [45] (fun sc wx => ∃ go : Bool, sc = .bool go ∧ wx = w6 ∧ Hid (go = decide ((rdN b 1 (h3F b).2).2.bad = false ∧ 15 < m)))
  case first =>
    obtain ⟨bi, hbi⟩ : ∃ bi, bi = badI (rdN b 1 (h3F b).2).2 := ⟨_, rfl⟩
    rw [← hbi] at c2 HBN
    clear hbi
    by_cases hneg : bi < 0
    · have i0 : decide (bi < 0) = true := by simp; omega
      have HG : Hid (decide ((15 : Int) < (m : Int)) = decide ((rdN b 1 (h3F b).2).2.bad = false ∧ 15 < m)) := hide (by rw [Bool.eq_iff_iff, decide_eq_true_iff, decide_eq_true_iff]; exact ⟨fun h => ⟨HBN.out.1 hneg, by omega⟩, fun h => by have := h.2; omega⟩)
      go_wp2_with fail
      go_meet
      exact ⟨_, by first | rfl | simp, rfl, by first | exact HG | exact hide (by have := HG.out; simpa using this)⟩
    · have i0 : decide (bi < 0) = false := by simp; omega
      have HG : Hid (false = decide ((rdN b 1 (h3F b).2).2.bad = false ∧ 15 < m)) := hide (by symm; rw [decide_eq_false_iff_not]; exact fun h => hneg (HBN.out.2 h.1))
      go_wp2_with fail
      go_meet
      exact ⟨false, rfl, rfl, HG⟩
  case rest =>
  obtain ⟨go, rfl, rfl, HG⟩ := hcut
  go_upto_if 45 with (fail)
  go_cut [] (fun wx => Hid (RkJ w wx A n c gf (gf + 1) ((h1F b).1 : Int) (h4F b).2 (.slice none 0 0) []))
  case first =>
    cases go with
    | true =>
      have hg := of_decide_eq_true HG.out.symm
      have HE : Hid ((h4F b).2 = ⟨14, true⟩) := hide (by rw [HF4.out, if_pos hg])
      clear hg HG
      go_wp2_with fail
      go_meet
      exact hide (by rw [HE.out]; exact J6.out.call ⟨p6, HB6.out.set_ 2 _, fun h => by cases h⟩ (Tw.set_ _ _ _ _ _))
    | false =>
      have hg := of_decide_eq_false HG.out.symm
      have HE : Hid ((h4F b).2 = (rdN b 1 (h3F b).2).2) := hide (by rw [HF4.out, if_neg hg])
      clear hg HG
      go_wp2_with fail
      go_meet
      exact hide (by rw [HE.out]; exact J6.out)
  case rest =>
  have J7 := hcut
  clear J6 HB6 c2 z2 HF4 HBN HG x6
  have HO1 : Hid (((m : Int) % 2 == 1) = oneS b) := hide (by unfold oneS; rw [HMM.out, Bool.eq_iff_iff]; simp; omega)
  have HO2 : Hid (((m : Int) / 2 % 2 == 0) = !noH b) := hide (by unfold noH; rw [HMM.out, Bool.eq_iff_iff]; simp; omega)
  have HO4 : Hid (((m : Int) / 4 % 2 == 1) = oneZ b) := hide (by unfold oneZ; rw [HMM.out, Bool.eq_iff_iff]; simp; omega)
  have HO8 : Hid (decide ((m : Int) < 8) = !fstK b) := hide (by unfold fstK; rw [HMM.out, Bool.eq_iff_iff]; simp; omega)
  have hmany : nF b < 65536 := hv3
  have HCO := hide (fun (W : World) (s : Rd) (v : Value) (xs : List Smp) (one sign : Bool) (hJ : RkJ w W A n c gf (gf + 1) ((h1F b).1 : Int) s v xs) (hps : s.pos ≤ n) => column_any (m := nF b) (one := one) (sign := sign) hJ.i.rdr (H.out.ext hJ.i.ext) HNE.out hps hmany)
  have q1 := HO1.out
  have q2 := HO2.out
  have q4 := HO4.out
  have q8 := HO8.out
  obtain ⟨j0, hi0, hz0, hz1, hz2⟩ := info_parts Try.info3
  have hmk := made_run (P := Try.prog) 34 3 j0 _ Try.underlying34 hi0 hz0 (sz := 1) hz1 (bytes := 8) hz2 (nF b) (by omega) (by omega)
  have HMO := hide (fun (W : World) => by
    have := (made_own (enc := e64) (x := (0 : Int)) (t := 3) (z := #[Value.int .i64 0]) (sz := 1) rfl rfl (by omega) W W.heap.size (nF b) (Nat.le_refl _) (by unfold maxLen; omega)).atS len_e64
    rw [Nat.mul_one] at this
    exact this)
  clear hi0 hz0 hz1 hz2 HO1 HO2 HO4 HO8
  go_wp2_with fail
  with_reducible refine (HCO.out _ _ _ _ _ _ J7.out (HPC.out 0).2.2.2.2).mono ?_
  rintro e w8 ⟨T1, k1, tc1, rfl, b8, t8, a8, l8⟩
  have J8 : Hid (RkJ w w8 A n c gf (gf + 1) ((h1F b).1 : Int) (c1F b (nF b)).2 (.slice none 0 0) []) := hide (J7.out.call b8 t8)
  have hgw : gf < wc.heap.size := J7.out.fb.lt
  have A1 : Hid ((c1F b (nF b)).2.bad = false → At w8 1 e64 T1 k1 tc1 ((c1F b (nF b)).1.map (conV false))) := hide a8
  have L1 : Hid (∀ a, T1 = some a → gf + 1 ≤ a.block) := hide (fun a ha => by have := l8 a ha; omega)
  clear b8 t8 a8 l8 J7 q1 hgw
  go_upto_if 60 with (fail)
  refine gen_wpC fun w9 h9 => ?_
  have E9 : Hid (Ext w8 w9) := hide (by rw [h9]; exact Ext.alloc _ _)
  have J9 := hide (J8.out.more E9.out)
  have HM9 : Hid (At w9 1 e64 (some ⟨w8.heap.size, 0, none⟩) (nF b) (nF b) (List.replicate (nF b) (0 : Int))) := hide (by rw [h9]; exact HMO.out w8)
  have hg8 : gf < w8.heap.size := J8.out.fb.lt
  have hg9 : gf < w9.heap.size := J9.out.fb.lt
  clear h9 hmk
  go_cut [12] (fun s12 wx => ∃ T2 k2 tc2, s12 = .slice T2 k2 tc2 ∧ Hid (RkJ w wx A n c gf (gf + 1) ((h1F b).1 : Int) (c2F b (nF b)).2 (.slice none 0 0) []) ∧ Hid ((c2F b (nF b)).2.bad = false → At wx 1 e64 T2 k2 tc2 (c2F b (nF b)).1) ∧ Hid (∀ a, T2 = some a → gf + 1 ≤ a.block) ∧ Hid (∀ k, gf + 1 ≤ k → k < w8.heap.size → wx.heap[k]? = w8.heap[k]?) ∧ Hid (w8.heap.size ≤ wx.heap.size))
  case first =>
    cases hno : noH b with
    | true =>
      have HE : Hid (c2F b (nF b) = (List.replicate (nF b) 0, (c1F b (nF b)).2)) := hide (by unfold c2F colO; rw [hno, if_pos rfl])
      rw [hno] at q2
      clear hno
      go_wp2_with fail
      go_meet
      exact ⟨_, _, _, rfl, hide (by rw [HE.out]; exact J9.out), hide (fun _ => by rw [HE.out]; exact HM9.out), hide (fun a ha => by injection ha with ha; subst ha; show gf + 1 ≤ w8.heap.size; omega), hide (fun k _ hk => E9.out.block k hk), hide E9.out.size⟩
    | false =>
      have HE : Hid (c2F b (nF b) = ((colF b false (nF b) (c1F b (nF b)).2).1.map sgn4, (colF b false (nF b) (c1F b (nF b)).2).2)) := hide (by unfold c2F colO; rw [hno, if_neg (by simp)])
      rw [hno] at q2
      clear hno
      go_wp2_with fail
      with_reducible refine (HCO.out _ _ _ _ _ _ J9.out (HPC.out (nF b)).1).mono ?_
      rintro e wa ⟨T2, k2, tc2, rfl, ba, ta, aa, la⟩
      have JA := hide (J9.out.call ba ta)
      have AA := hide aa
      have LA := hide la
      have TA := hide ta
      clear ba ta aa la
      go_wp2_with fail
      go_meet
      refine ⟨_, _, _, rfl, hide (by rw [HE.out]; exact JA.out), hide (fun hb => ?_), hide (fun a ha => by have := LA.out a ha; omega), hide (fun k hk1 hk2 => ?_), hide (Nat.le_trans E9.out.size TA.out.size)⟩
      · rw [HE.out] at hb ⊢
        exact AA.out hb
      · exact (TA.out.block k (by have := E9.out.size; omega) (by have := J9.out.hgf; omega) (by simp)).trans (E9.out.block k hk2)
  case rest =>
  obtain ⟨T2, k2, tc2, rfl, JB, A2, L2, K2, S2⟩ := hcut
  have hgb : gf < wc.heap.size := JB.out.fb.lt
  clear J8 J9 HM9 HMO E9 hg9 q2
  go_wp2_with fail
  with_reducible refine (HCO.out _ _ _ _ _ _ JB.out (HPC.out (nF b)).2.1).mono ?_
  rintro e wd ⟨T3, k3, tc3, rfl, bd, td, ad, ld⟩
  have JD : Hid (RkJ w wd A n c gf (gf + 1) ((h1F b).1 : Int) (c3F b (nF b)).2 (.slice none 0 0) []) := hide (JB.out.call bd td)
  have A3 : Hid ((c3F b (nF b)).2.bad = false → At wd 1 e64 T3 k3 tc3 ((c3F b (nF b)).1.map (conV false))) := hide ad
  have L3 : Hid (∀ a, T3 = some a → gf + 1 ≤ a.block) := hide (fun a ha => by have := ld a ha; omega)
  have K3 : Hid (∀ k, gf + 1 ≤ k → k < wc.heap.size → wd.heap[k]? = wc.heap[k]?) := hide (fun k h1 h2 => td.block k h2 (by have := JB.out.hgf; omega) (by simp))
  have hszd := td.size
  have HCB : Hid ((c3F b (nF b)).2.bad = false → (c2F b (nF b)).2.bad = false ∧ (c1F b (nF b)).2.bad = false) := hide (fun h3 => by
    have g2 : (c2F b (nF b)).2.bad = false := by
      cases hb : (c2F b (nF b)).2.bad with
      | false => rfl
      | true => have h2 : (c3F b (nF b)).2 = (c2F b (nF b)).2 := colF_bad hb _; rw [h2, hb] at h3; cases h3
    refine ⟨g2, ?_⟩
    cases hb : (c1F b (nF b)).2.bad with
    | false => rfl
    | true => have h2 : (c2F b (nF b)).2 = (c1F b (nF b)).2 := colO_bad hb _; rw [h2, hb] at g2; cases g2)
  have hk8 := S2.out
  have HAT := hide (fun (W : World) (hK : ∀ k, gf + 1 ≤ k → k < wd.heap.size → W.heap[k]? = wd.heap[k]?) (h3 : (c3F b (nF b)).2.bad = false) => (⟨(A1.out (HCB.out h3).2).keepG len_e64 (by omega) L1.out (fun k h1 h2 => (hK k h1 (by omega)).trans ((K3.out k h1 (by omega)).trans (K2.out k h1 h2))),
    (A2.out (HCB.out h3).1).keepG len_e64 (by omega) L2.out (fun k h1 h2 => (hK k h1 (by omega)).trans (K3.out k h1 h2)), (A3.out h3).keepG len_e64 (by omega) L3.out hK⟩ : At W 1 e64 T1 k1 tc1 ((c1F b (nF b)).1.map (conV false)) ∧ At W 1 e64 T2 k2 tc2 (c2F b (nF b)).1 ∧ At W 1 e64 T3 k3 tc3 ((c3F b (nF b)).1.map (conV false))))
  clear bd td ad ld JB A1 A2 A3 L1 L2 L3 K2 K3 q4
  have JL : Hid (RkJ w wd A n c gf wd.heap.size ((h1F b).1 : Int) (c3F b (nF b)).2 (.slice none 0 0) []) := hide (JD.out.base_ (by have := JD.out.fb.lt; omega))
  have hgd : gf < wd.heap.size := JD.out.fb.lt
  have hgr : w.heap.size + 2 ≤ gf := JD.out.hgf
  obtain ⟨i1_, hi1, hy0, hy1, hy2⟩ := info_parts Try.info31
  go_wp2_with fail
  go_loopw [14, 15] (fun r14 ri wr => ∃ (k : Nat) (v : Value) (xs : List Smp), k ≤ nF b ∧ ri = .int .i64 k ∧ r14 = .int .i64 (tmF (tF b) (c1F b (nF b)).1 k) ∧ Hid (RkJ w wr A n c gf wd.heap.size ((h1F b).1 : Int) (c4F b k).2 v xs) ∧ Hid (∀ q, gf + 1 ≤ q → q < wd.heap.size → wr.heap[q]? = wd.heap[q]?) ∧ Hid ((c4F b k).2.bad = false → xs = smK b k) ∧ Hid (xs.length ≤ k) ∧ Hid (wd.heap.size ≤ wr.heap.size)) (fun _ ri _ => nF b - (intOf ri).toNat)
  case atStart => exact ⟨0, _, _, by omega, rfl, rfl, JL, hide (fun _ _ _ => rfl), hide (fun _ => rfl), hide (Nat.zero_le _), hide (Nat.le_refl _)⟩
  case round =>
    obtain ⟨k, v, xs, hk, rfl, rfl, JK, KK, XK, LK, SK⟩ := hrel
    obtain ⟨p0, hbk, _⟩ := JK.out.i.rdr
    have c2 : wr.cell? ⟨w.heap.size + 1, 2, none⟩ = some (.int .i64 (badI (c4F b k).2)) := hbk.cell 2
    have HBN := hide (badI_neg (c4F b k).2)
    clear hbk
    go_upto_region 15 with (fail)
    go_cut [81] (fun sc wx => ∃ go : Bool, sc = .bool go ∧ wx = wr ∧ Hid (go = decide (k < nF b ∧ (c4F b k).2.bad = false)))
    case first =>
      by_cases hlt : k < nF b
      · have i0 : (k : Int) < (nF b : Int) := by omega
        have i1 : decide ((k : Int) < (nF b : Int)) = true := by simp; omega
        have i2 : decide (k < nF b) = true := by simp; omega
        obtain ⟨bi, hbi⟩ : ∃ bi, bi = badI (c4F b k).2 := ⟨_, rfl⟩
        rw [← hbi] at c2 HBN
        have HG : Hid (decide (bi < 0) = decide (k < nF b ∧ (c4F b k).2.bad = false)) := hide (by rw [Bool.eq_iff_iff, decide_eq_true_iff, decide_eq_true_iff, HBN.out]; exact ⟨fun h => ⟨hlt, h⟩, fun h => h.2⟩)
        clear hbi
        go_wp2_with fail
        go_meet
        exact ⟨_, rfl, rfl, HG⟩
      · have i0 : ¬ (k : Int) < (nF b : Int) := by omega
        have i1 : decide ((k : Int) < (nF b : Int)) = false := by simp; omega
        have i2 : decide (k < nF b) = false := by simp; omega
        have HG : Hid (false = decide (k < nF b ∧ (c4F b k).2.bad = false)) := hide (by symm; rw [decide_eq_false_iff_not]; exact fun h => hlt h.1)
        go_wp2_with fail
        go_meet
        exact ⟨false, rfl, rfl, HG⟩
    case rest =>
    obtain ⟨go, rfl, rfl, HG⟩ := hcut
    clear c2 HBN
    cases go with
    | true =>
      have hg : k < nF b ∧ (c4F b k).2.bad = false := by have := HG.out; exact of_decide_eq_true this.symm
      have hlt := hg.1
      have H3B : Hid ((c3F b (nF b)).2.bad = false) := hide (by
        cases hh : (c3F b (nF b)).2.bad with
        | false => rfl
        | true => have h1 : (c4F b k).2 = (c3F b (nF b)).2 := keyF_bad hh _; have h2 := hg.2; rw [h1, hh] at h2; cases h2)
      obtain ⟨a1, a2, a3⟩ := HAT.out _ KK.out H3B.out
      have HA1 := hide a1
      have HA2 := hide a2
      have HA3 := hide a3
      have e1 : k1 = nF b := by have h1 := a1.len; rw [List.length_map] at h1; have h2 : (c1F b (nF b)).1.length = nF b := colF_len _ _ _ _; omega
      have e2 : k2 = nF b := by have h1 := a2.len; have h2 : (c2F b (nF b)).1.length = nF b := colO_len _ _ _ _; omega
      have e3 : k3 = nF b := by have h1 := a3.len; rw [List.length_map] at h1; have h2 : (c3F b (nF b)).1.length = nF b := colF_len _ _ _ _; omega
      subst e1 e2 e3
      obtain ⟨T1b, T1o, rfl, _⟩ := a1.addr (Nat.lt_of_le_of_lt (Nat.zero_le k) hlt)
      obtain ⟨T2b, T2o, rfl, _⟩ := a2.addr (Nat.lt_of_le_of_lt (Nat.zero_le k) hlt)
      obtain ⟨T3b, T3o, rfl, _⟩ := a3.addr (Nat.lt_of_le_of_lt (Nat.zero_le k) hlt)
      have x1 := a1.num hlt
      have x2 := a2.num hlt
      have x3 := a3.num hlt
      rw [mapv_get] at x1 x3
      have HGB := hide hg.2
      clear a1 a2 a3 hg HG
      with_reducible generalize hX1 : (c1F b (nF b)).1.getD k 0 = X1 at *
      with_reducible generalize hX2 : (c2F b (nF b)).1.getD k 0 = X2 at *
      with_reducible generalize hX3 : (c3F b (nF b)).1.getD k 0 = X3 at *
      have HX := hide (And.intro hX1 (And.intro hX2 hX3))
      clear hX1 hX2 hX3
      with_reducible generalize hTM : tmF (tF b) (c1F b (nF b)).1 k = TM at *
      have HTM := hide hTM
      clear hTM
      go_upto_region 17 with (fail)
      have ik0 : ((k : Int) == 0) = decide (k = 0) := by rw [Bool.eq_iff_iff]; simp
      have y1 := (Ext.alloc wc (.cells #[.int .i64 0, .int .i64 0, .int .i64 0, .int .i64 0, .bool false] 31)).cell x1
      have y2 := (Ext.alloc wc (.cells #[.int .i64 0, .int .i64 0, .int .i64 0, .int .i64 0, .bool false] 31)).cell x2
      have y3 := (Ext.alloc wc (.cells #[.int .i64 0, .int .i64 0, .int .i64 0, .int .i64 0, .bool false] 31)).cell x3
      go_region
      go_upto_region 18 with (fail)
      refine gen_wpC fun w4 h4 => ?_
      obtain ⟨sb, hsb⟩ : ∃ sb, sb = wc.heap.size := ⟨_, rfl⟩
      rw [← hsb]
      have E4 : Hid (Ext wc w4) := hide (by rw [h4]; exact Ext.trans (Ext.alloc _ _) (Ext.drew _))
      have X4 : Hid (Blk w4 sb 31 #[.int .i64 TM, .int .i64 (X1 : Int), .int .i64 X2, .int .i64 (X3 : Int), .bool (decide (k = 0))]) := hide (by rw [h4, hsb]; exact (Blk.new _ _ _).drew)
      have J4 := hide (JK.out.more E4.out)
      have K4 : Hid (∀ q, gf + 1 ≤ q → q < wd.heap.size → w4.heap[q]? = wd.heap[q]?) := hide (fun q h1 h2 => (E4.out.block q (Nat.lt_of_lt_of_le h2 SK.out)).trans (KK.out q h1 h2))
      have S4 : Hid (wd.heap.size ≤ w4.heap.size) := hide (Nat.le_trans SK.out E4.out.size)
      have HRB : Hid (v.ownBlock ≠ some sb) := hide (fun e => by have := (JK.out.row.lt _ e).2; rw [← hsb] at this; omega)
      have hsd : wd.heap.size ≤ sb := by rw [hsb]; exact SK.out
      clear h4 hsb E4 JK KK SK x1 x2 x3 y1 y2 y3
      have HTK := hide (fun (W : World) (hI : RkI w W A n c (c4F b k).2) => tkN 1 1 rfl hI.rdr (H.out.ext hI.ext) HNE.out (HPC.out k).2.2.2.1 (by omega))
      have HNB := hide (show (c4F b k).2.bad = false from HGB.out)
      go_upto_if 101 with (fail)
      go_cut [] (fun wx => ∃ ky : Bool, Hid (Blk wx sb 31 #[.int .i64 TM, .int .i64 (X1 : Int), .int .i64 X2, .int .i64 (X3 : Int), .bool ky]) ∧ Hid (RkJ w wx A n c gf wd.heap.size ((h1F b).1 : Int) (c4F b (k + 1)).2 v xs) ∧ Hid ((c4F b (k + 1)).2.bad = false → ky = (c4F b (k + 1)).1.getD k false) ∧ Hid (∀ q, gf + 1 ≤ q → q < wd.heap.size → wx.heap[q]? = wd.heap[q]?) ∧ Hid (wd.heap.size ≤ wx.heap.size))
      case first =>
        cases hf : fstK b with
        | true =>
          have HSU : Hid ((c4F b (k + 1)).2 = (c4F b k).2 ∧ (c4F b (k + 1)).1.getD k false = decide (k = 0)) := hide (by
            have hl : (c4F b k).1.length = k := keyF_len _ _ _ _
            have e0 : c4F b (k + 1) = ((c4F b k).1 ++ [decide (k = 0)], (c4F b k).2) := by show keyF _ _ _ _ = _; rw [keyF, if_pos hf]; rfl
            rw [e0]; exact ⟨rfl, by rw [getD_snoc, if_neg (by omega), if_pos hl.symm]⟩)
          rw [hf] at q8
          clear hf
          go_wp2_with fail
          go_meet
          exact ⟨_, X4, hide (by rw [HSU.out.1]; exact J4.out), hide (fun _ => HSU.out.2.symm), K4, S4⟩
        | false =>
          have HSU : Hid ((c4F b (k + 1)).2 = (rdF b 1 (c4F b k).2).2 ∧ (c4F b (k + 1)).1.getD k false = decide ((rdF b 1 (c4F b k).2).1 = 1)) := hide (by
            have hl : (c4F b k).1.length = k := keyF_len _ _ _ _
            have e0 : c4F b (k + 1) = ((c4F b k).1 ++ [decide ((rdF b 1 (c4F b k).2).1 = 1)], (rdF b 1 (c4F b k).2).2) := by show keyF _ _ _ _ = _; rw [keyF, if_neg (by rw [hf]; simp)]; rfl
            rw [e0]; exact ⟨rfl, by rw [getD_snoc, if_neg (by omega), if_pos hl.symm]⟩)
          have HRF1 : Hid ((rdF b 1 (c4F b k).2).1 = (rdN b 1 (c4F b k).2).1) := hide (by unfold rdF; split <;> rfl)
          have HRF2 : Hid ((rdF b 1 (c4F b k).2).2 = if (rdN b 1 (c4F b k).2).2.bad = false ∧ 1 < (rdN b 1 (c4F b k).2).1 then ⟨(c4F b k).2.pos, true⟩ else (rdN b 1 (c4F b k).2).2) := hide (by unfold rdF; split <;> rfl)
          rw [hf] at q8
          obtain ⟨p4, hb4, hp4⟩ := J4.out.i.rdr
          have hp4e := hp4 HNB.out
          subst hp4e
          have r1 : w4.cell? ⟨w.heap.size + 1, 1, none⟩ = some (.int .i64 ((c4F b k).2.pos : Int)) := hb4.cell 1
          have HXK := hide (byte1 b (c4F b k).2)
          have hkl : (rdN b 1 (c4F b k).2).1 < 256 := by have := rdN_lt (b := b) (k := 1) (c4F b k).2 (by omega); simpa using this
          clear hf hb4 hp4
          go_wp2_with fail
          with_reducible refine (HTK.out _ J4.out.i).mono ?_
          rintro e w5 ⟨⟨T5, tc5, rfl, a5⟩, b5, t5⟩
          have J5 : Hid (RkJ w w5 A n c gf wd.heap.size ((h1F b).1 : Int) (rdN b 1 (c4F b k).2).2 v xs) := hide (J4.out.call b5 t5)
          have X5 : Hid (Blk w5 sb 31 #[.int .i64 TM, .int .i64 (X1 : Int), .int .i64 X2, .int .i64 (X3 : Int), .bool (decide (k = 0))]) := hide (t5.blk X4.out (by omega) (by simp))
          have K5 : Hid (∀ q, gf + 1 ≤ q → q < wd.heap.size → w5.heap[q]? = wd.heap[q]?) := hide (fun q h1 h2 => (t5.block q (Nat.lt_of_lt_of_le h2 S4.out) (by omega) (by simp)).trans (K4.out q h1 h2))
          have S5 : Hid (wd.heap.size ≤ w5.heap.size) := hide (Nat.le_trans S4.out t5.size)
          obtain ⟨xk, hxk, hxkn⟩ := HXK.out
          rw [hxk] at a5
          obtain ⟨T5b, T5o, rfl, _⟩ := a5.addr (by omega)
          have x5 : w5.cell? ⟨T5b, T5o, none⟩ = some (.int .u8 ((rdN b 1 (c4F b k).2).1 : Int)) := by
            have := a5.byte (k := 0) (by simp)
            rw [← hxkn]
            simpa using this
          obtain ⟨p5, hb5, _⟩ := J5.out.i.rdr
          have c5 : w5.cell? ⟨w.heap.size + 1, 2, none⟩ = some (.int .i64 (badI (rdN b 1 (c4F b k).2).2)) := hb5.cell 2
          have z5 : w5.frozen? ⟨w.heap.size + 1, 2, none⟩ = false := hb5.frozen 2
          have HB5 := hide hb5
          have HBN5 := hide (badI_neg (rdN b 1 (c4F b k).2).2)
          clear a5 b5 t5 J4 X4 K4 S4 HTK hxk hxkn hb5 HXK r1
          with_reducible generalize hkv : (rdN b 1 (c4F b k).2).1 = kv at *
          clear hkv
          go_upto_region 21 with (fail)
          go_cut [118] (fun sc wx => ∃ go : Bool, sc = .bool go ∧ w5 = wx ∧ Hid (go = decide ((rdN b 1 (c4F b k).2).2.bad = false ∧ 1 < kv)))
          case first =>
            obtain ⟨bi, hbi⟩ : ∃ bi, bi = badI (rdN b 1 (c4F b k).2).2 := ⟨_, rfl⟩
            rw [← hbi] at c5 HBN5
            clear hbi
            by_cases hneg : bi < 0
            · have i0 : decide (bi < 0) = true := by simp; omega
              have HG5 : Hid (decide ((1 : Int) < (kv : Int)) = decide ((rdN b 1 (c4F b k).2).2.bad = false ∧ 1 < kv)) := hide (by rw [Bool.eq_iff_iff, decide_eq_true_iff, decide_eq_true_iff]; exact ⟨fun h => ⟨HBN5.out.1 hneg, by omega⟩, fun h => by have := h.2; omega⟩)
              go_wp2_with fail
              go_meet
              exact ⟨_, by first | rfl | simp, rfl, by first | exact HG5 | exact hide (by have := HG5.out; simpa using this)⟩
            · have i0 : decide (bi < 0) = false := by simp; omega
              have HG5 : Hid (false = decide ((rdN b 1 (c4F b k).2).2.bad = false ∧ 1 < kv)) := hide (by symm; rw [decide_eq_false_iff_not]; exact fun h => hneg (HBN5.out.2 h.1))
              go_wp2_with fail
              go_meet
              exact ⟨false, rfl, rfl, HG5⟩
          case rest =>
          obtain ⟨go5, rfl, hw5, HG5⟩ := hcut
          subst hw5
          go_upto_if 118 with (fail)
          go_cut [] (fun wx => Hid (RkJ w wx A n c gf wd.heap.size ((h1F b).1 : Int) (c4F b (k + 1)).2 v xs) ∧ Hid (Blk wx sb 31 #[.int .i64 TM, .int .i64 (X1 : Int), .int .i64 X2, .int .i64 (X3 : Int), .bool (decide (k = 0))]) ∧ Hid (∀ q, gf + 1 ≤ q → q < wd.heap.size → wx.heap[q]? = wd.heap[q]?) ∧ Hid (wd.heap.size ≤ wx.heap.size))
          case first =>
            cases go5 with
            | true =>
              have hg5 := of_decide_eq_true HG5.out.symm
              have HE5 : Hid ((c4F b (k + 1)).2 = ⟨(c4F b k).2.pos, true⟩) := hide (by rw [HSU.out.1, HRF2.out, if_pos hg5])
              clear hg5 HG5
              go_wp2_with fail
              go_meet
              have ht9 : Tw w5 (w5.setCell ⟨w.heap.size + 1, 2, none⟩ (.int .i64 ((c4F b k).2.pos : Int))) (w.heap.size + 1) none := Tw.set_ _ _ _ _ _
              exact ⟨hide (by rw [HE5.out]; exact J5.out.call ⟨p5, HB5.out.set_ 2 _, fun h => by cases h⟩ ht9), hide (ht9.blk X5.out (by omega) (by simp)), hide (fun q h1 h2 => (ht9.block q (Nat.lt_of_lt_of_le h2 S5.out) (by omega) (by simp)).trans (K5.out q h1 h2)), hide (Nat.le_trans S5.out ht9.size)⟩
            | false =>
              have hg5 := of_decide_eq_false HG5.out.symm
              have HE5 : Hid ((c4F b (k + 1)).2 = (rdN b 1 (c4F b k).2).2) := hide (by rw [HSU.out.1, HRF2.out, if_neg hg5])
              clear hg5 HG5
              go_wp2_with fail
              go_meet
              exact ⟨hide (by rw [HE5.out]; exact J5.out), X5, K5, S5⟩
          case rest =>
          obtain ⟨J6, X6, K6, S6⟩ := hcut
          clear J5 X5 K5 S5 HB5 c5 z5 x5 HBN5 HG5
          have z6 := X6.out.frozen 4
          have z6c : wc.cell? ⟨sb, 4, none⟩ = some (.bool (decide (k = 0))) := X6.out.cell 4
          have HKY : Hid (((kv : Int) == 1) = (c4F b (k + 1)).1.getD k false) := hide (by rw [HSU.out.2, HRF1.out, Bool.eq_iff_iff]; simp; omega)
          go_wp2_with fail
          go_meet
          exact ⟨_, hide (X6.out.set_ 4 _), hide (J6.out.store sb 4 _ (by omega) HRB.out), hide (fun _ => HKY.out), hide (keep_set K6.out hsd), hide (by simpa [World.setCell] using S6.out)⟩
      case rest =>
      obtain ⟨ky, X5, J5, KY5, K5, S5⟩ := hcut
      obtain ⟨a1, a2, a3⟩ := HAT.out _ K5.out H3B.out
      have x1 := a1.num hlt
      rw [mapv_get, HX.out.1] at x1
      clear a1 a2 a3 HA1 HA2 HA3 X4 J4 K4 S4 HTK
      obtain ⟨TN, hTN⟩ : ∃ TN, TN = tmF (tF b) (c1F b (nF b)).1 (k + 1) := ⟨_, rfl⟩
      have uT : IntKind.i64.wrap (TM + (X1 : Int)) = TN := by
        rw [hTN, ← HTM.out, ← HX.out.1]; rfl
      have HTN := hide hTN
      clear hTN
      have g1 : wc.cell? ⟨gf, 1, none⟩ = some v := J5.out.fb.cell 1
      have gz : wc.frozen? ⟨gf, 1, none⟩ = false := J5.out.fb.frozen 1
      have s0 := X5.out.cell 0
      have s1 : wc.cell? ⟨sb, 1, none⟩ = some (.int .i64 (X1 : Int)) := X5.out.cell 1
      have s2 : wc.cell? ⟨sb, 2, none⟩ = some (.int .i64 X2) := X5.out.cell 2
      have s3 : wc.cell? ⟨sb, 3, none⟩ = some (.int .i64 (X3 : Int)) := X5.out.cell 3
      have s4 : wc.cell? ⟨sb, 4, none⟩ = some (.bool ky) := X5.out.cell 4
      have hxl := LK.out
      have T1 : Hid (xs.length + 1 ≤ maxLen) := hide (by unfold maxLen; omega)
      have T2 : Hid ((xs.length + 1) * 40 ≤ 140737488355328) := hide (by omega)
      have T3 : Hid (wd.heap.size ≤ (wc.alloc (.cells #[.int .i64 TM, .int .i64 (X1 : Int), .int .i64 X2, .int .i64 (X3 : Int), .bool ky] 31)).heap.size) := hide (by have := S5.out; rw [World.size_alloc]; omega)
      have i8 : IntKind.i64.wrap ((k : Int) + 1) = (k : Int) + 1 := by rw [IntKind.wrap_i64]; omega
      go_wp2_with (at_builtin; refine wpList_append_at _ rfl (.tmp 133) (.tmp 135) 23 rfl wd.heap.size 31 i1_ _ 40 Try.underlying23 hi1 hy0 hy1 hy2 rfl (by omega) len_eSm one_eSm _ _ (by rfl) (J5.out.row.ext (Ext.alloc _ _)) (some ⟨wc.heap.size, 0, none⟩) 1 1 [⟨TM, (X1 : Int), X2, (X3 : Int), ky⟩] (by rfl) (At.newS wc ⟨TM, (X1 : Int), X2, (X3 : Int), ky⟩ _) T1.out T2.out T3.out ?_; intro v7 w7 o7 g7 _ _; have O7 := hide o7; have G7 := hide g7; clear o7 g7; obtain ⟨A7, c7, hv7, _⟩ := O7.out.at_ len_eSm; subst hv7; simp only [List.length_append, List.length_singleton] at O7; have gz7 : w7.frozen? ⟨gf, 1, none⟩ = false := (((J5.out.fb.ext (Ext.alloc _ _)).grown G7.out (fun e => by have := (J5.out.row.lt _ e.symm).1; omega)).frozen 1); have g17 : w7.cell? ⟨gf, 1, none⟩ = some v := (((J5.out.fb.ext (Ext.alloc _ _)).grown G7.out (fun e => by have := (J5.out.row.lt _ e.symm).1; omega)).cell 1))
      refine ⟨⟨k + 1, _, xs ++ [⟨TM, (X1 : Int), X2, (X3 : Int), ky⟩], by omega, by go_num, by rw [HTN.out], hide (J5.out.app (Ext.alloc _ _) O7.out G7.out), hide (fun q h1 h2 => ?_), hide (fun hb => ?_), hide (by rw [List.length_append]; simp; omega), hide ?_⟩, by simp [intOf]; omega⟩
      · refine (Below.heap_setCell w7 ⟨gf, 1, none⟩ _ q (by show q ≠ gf; omega)).trans ?_
        exact (G7.out.block q (by have := T3.out; omega) (fun e => by have := (J5.out.row.lt _ e.symm).1; omega)).trans (((Ext.alloc _ _).block q (Nat.lt_of_lt_of_le h2 S5.out)).trans (K5.out q h1 h2))
      · rw [XK.out HNB.out, smK_succ hlt, HTM.out, HX.out.1, HX.out.2.1, HX.out.2.2, KY5.out hb, show (c4F b (nF b)).1.getD k false = (c4F b (k + 1)).1.getD k false from keyF_pre3 _ hlt]
      · have := G7.out.size; have h3 := T3.out; simp [World.setCell]; omega
    | false =>
      have hg : ¬ (k < nF b ∧ (c4F b k).2.bad = false) := by have := HG.out; exact of_decide_eq_false this.symm
      have HEQ : Hid ((c4F b (nF b)).2 = (c4F b k).2 ∧ ((c4F b (nF b)).2.bad = false → k = nF b)) := hide (by
        by_cases h1 : k < nF b
        · have hbad : (c4F b k).2.bad = true := by
            cases hh : (c4F b k).2.bad with
            | true => rfl
            | false => exact absurd ⟨h1, hh⟩ hg
          have e1 : (c4F b (nF b)).2 = (c4F b k).2 := keyF_more hbad (nF b) hk
          exact ⟨e1, fun h => by rw [e1, hbad] at h; cases h⟩
        · rw [show k = nF b by omega]; exact ⟨rfl, fun _ => rfl⟩)
      clear hg HG
      have HED : Hid (endF b = if (c4F b k).2.bad = false ∧ (c4F b k).2.pos < b.length then ⟨(c4F b k).2.pos, true⟩ else (c4F b k).2) := hide (by show rdE b (c4F b (nF b)).2 = _; rw [HEQ.out.1]; rfl)
      obtain ⟨p9, hb9, hp9⟩ := JK.out.i.rdr
      have r1 : wc.cell? ⟨w.heap.size + 1, 1, none⟩ = some (.int .i64 p9) := hb9.cell 1
      have r2 : wc.cell? ⟨w.heap.size + 1, 2, none⟩ = some (.int .i64 (badI (c4F b k).2)) := hb9.cell 2
      have r3 : wc.frozen? ⟨w.heap.size + 1, 2, none⟩ = false := hb9.frozen 2
      have HB9 := hide hb9
      have HP9 := hide hp9
      have HBN9 := hide (badI_neg (c4F b k).2)
      clear hb9 hp9
      go_upto_region 26 with (fail)
      go_cut [151] (fun sc wx => ∃ go : Bool, sc = .bool go ∧ wc = wx ∧ Hid (go = decide ((c4F b k).2.bad = false ∧ (c4F b k).2.pos < b.length)))
      case first =>
        obtain ⟨bi, hbi⟩ : ∃ bi, bi = badI (c4F b k).2 := ⟨_, rfl⟩
        rw [← hbi] at r2 HBN9
        clear hbi
        by_cases hneg : bi < 0
        · have i0 : decide (bi < 0) = true := by simp; omega
          have HG9 : Hid (decide (p9 < (n : Int)) = decide ((c4F b k).2.bad = false ∧ (c4F b k).2.pos < b.length)) := hide (by
            have h1 := HBN9.out.1 hneg
            have h2 := HP9.out h1
            have h3 := HL.out
            rw [Bool.eq_iff_iff, decide_eq_true_iff, decide_eq_true_iff]; exact ⟨fun h => ⟨h1, by omega⟩, fun h => by have := h.2; omega⟩)
          go_wp2_with fail
          go_meet
          exact ⟨_, by first | rfl | simp, rfl, by first | exact HG9 | exact hide (by have := HG9.out; simpa using this)⟩
        · have i0 : decide (bi < 0) = false := by simp; omega
          have HG9 : Hid (false = decide ((c4F b k).2.bad = false ∧ (c4F b k).2.pos < b.length)) := hide (by symm; rw [decide_eq_false_iff_not]; exact fun h => hneg (HBN9.out.2 h.1))
          go_wp2_with fail
          go_meet
          exact ⟨false, rfl, rfl, HG9⟩
      case rest =>
      obtain ⟨go9, rfl, hw9, HG9⟩ := hcut
      subst hw9
      go_upto_if 151 with (fail)
      go_cut [] (fun wx => Hid (RkJ w wx A n c gf wd.heap.size ((h1F b).1 : Int) (endF b) v xs))
      case first =>
        cases go9 with
        | true =>
          have hg9 := of_decide_eq_true HG9.out.symm
          have HE9 : Hid (endF b = ⟨(c4F b k).2.pos, true⟩ ∧ p9 = ((c4F b k).2.pos : Int)) := hide ⟨by rw [HED.out, if_pos hg9], HP9.out hg9.1⟩
          clear hg9 HG9
          go_wp2_with fail
          go_meet
          exact hide (by rw [HE9.out.1]; exact JK.out.call ⟨p9, by have := HB9.out.set_ 2 (.int .i64 p9); rw [HE9.out.2] at this ⊢; exact this, fun h => by cases h⟩ (Tw.set_ _ _ _ _ _))
        | false =>
          have hg9 := of_decide_eq_false HG9.out.symm
          have HE9 : Hid (endF b = (c4F b k).2) := hide (by rw [HED.out, if_neg hg9])
          clear hg9 HG9
          go_wp2_with fail
          go_meet
          exact hide (by rw [HE9.out]; exact JK.out)
      case rest =>
      have JE := hcut
      clear JK KK HB9 r1 r2 r3 HG9 HED
      obtain ⟨vA, vc, hv, hat⟩ := JE.out.row.at_ len_eSm
      have HAE := hide hat
      have HXE : Hid ((endF b).bad = false → xs = smF b) := hide (fun hb => by
        have h1 : (c4F b (nF b)).2.bad = false := by
          cases hh : (c4F b (nF b)).2.bad with
          | false => rfl
          | true => have h2 : endF b = (c4F b (nF b)).2 := rdE_bad hh; rw [h2, hh] at hb; cases hb
        have h2 := HEQ.out.2 h1
        rw [XK.out (by rw [← HEQ.out.1]; exact h1), h2]
        exact List.take_of_length_le (by rw [show (smF b).length = nF b from mkSm_len _ _ _ _ _ _]; exact Nat.le_refl _))
      obtain ⟨p8, hb8, _⟩ := JE.out.i.rdr
      subst hv
      have g0 : wc.cell? ⟨gf, 0, none⟩ = some (.int .i64 ((h1F b).1 : Int)) := JE.out.fb.cell 0
      have g1 : wc.cell? ⟨gf, 1, none⟩ = some (.slice vA xs.length vc) := JE.out.fb.cell 1
      have r2 : wc.cell? ⟨w.heap.size + 1, 2, none⟩ = some (.int .i64 (badI (endF b))) := hb8.cell 2
      have z0 := JE.out.i.res.frozen 0
      have z1 := JE.out.i.res.frozen 1
      have y0 : wc.cell? ⟨w.heap.size, 0, none⟩ = some (.int .i64 0) := JE.out.i.res.cell 0
      have y1 : wc.cell? ⟨w.heap.size, 1, none⟩ = some (.slice none 0 0) := JE.out.i.res.cell 1
      clear hb8 hat XK LK SK HEQ
      go_upto_region 28 with (fail)
      rename_i qK0 qa0
      have QA0 := hide qa0
      clear qa0
      go_region
      refine QA0.out _ _ (wp_ret ?_)
      change bodyPost Try.prog Try.f36 (RkGives w b) Exit.ret _ _
      refine gen_bod fun w8 h8 => ?_
      have T8 : Hid (Tw wc w8 w.heap.size none) := hide (by rw [h8]; exact ((Tw.set_ _ _ _ _ _).trans (Tw.set_ _ _ _ _ _)).drew)
      have R8 : Hid (Blk w8 w.heap.size 25 #[.int .i64 ((h1F b).1 : Int), .slice vA xs.length vc]) := hide (by rw [h8]; exact ((JE.out.i.res.set_ 0 _).set_ 1 _).drew)
      have k0 : w8.cell? ⟨w.heap.size, 0, none⟩ = some (.int .i64 ((h1F b).1 : Int)) := R8.out.cell 0
      have k1 : w8.cell? ⟨w.heap.size, 1, none⟩ = some (.slice vA xs.length vc) := R8.out.cell 1
      have HM9 := HMM.out
      refine bodyPost_ret (v := .tuple #[.agg #[.int .i64 ((h1F b).1 : Int), .slice vA xs.length vc], .int .i64 (m : Int), .int .i64 (tF b), .int .i64 (badI (endF b))]) (by simp [results, Try.results36, go_sem, k0, k1]) rfl ⟨tw_extR JE.out.i.ext T8.out (Nat.le_refl _), vA, xs.length, vc, by rw [HM9], fun a ha => by subst ha; have := (JE.out.row.lt a.block rfl).1; omega, fun hb => ?_⟩
      have := (JE.out.row.tw T8.out (fun e => by have := (JE.out.row.lt _ e).1; omega) (fun g _ e => by cases e)).atS len_eSm
      rw [HXE.out hb] at this ⊢
      exact this
end Go.Proofs.Ytccmbokodifdoaa
