/- Walk: ReadFragment (program). Conditions as stated. -/
import Derived.Test.YtccmbokodifdoaaRfP
import Derived.Test.YtccmbokodifdoaaSrcA
import Derived.Test.YtccmbokodifdoaaMrkA
import Derived.Test.YtccmbokodifdoaaSetF
import Derived.Test.YtccmbokodifdoaaMade
import Derived.Test.YtccmbokodifdoaaSmpB
import Derived.StillTailTactics
namespace Go.Proofs.Ytccmbokodifdoaa
open Go.RowKit
/-- What is known of the call's own blocks. -/
structure RfI (w W : World) (A : Option Addr) (n c : Nat) (s : Rd) : Prop where
  ext : Ext w W
  res : Blk W w.heap.size 25 #[.int .i64 0, .slice none 0 0]
  src : Blk W (w.heap.size + 1) 69 (srcC A n c s)
theorem tw_ext {w W W' : World} {o : Nat} (h : Ext w W) (ht : Tw W W' o none) (ho : w.heap.size ≤ o) : Ext w W' :=
  ⟨ht.os.trans h.os, ht.tape.trans h.tape, ht.output.trans h.output, Nat.le_trans h.size ht.size, fun k hk => (ht.block k (Nat.lt_of_lt_of_le hk h.size) (by omega) (by simp)).trans (h.block k hk)⟩
theorem RfI.call {w W W' : World} {A : Option Addr} {n c : Nat} {s s' : Rd} (h : RfI w W A n c s) (hb : Blk W' (w.heap.size + 1) 69 (srcC A n c s')) (ht : Tw W W' (w.heap.size + 1) none) : RfI w W' A n c s' :=
  ⟨tw_ext h.ext ht (by omega), ht.blk h.res (by omega) (by simp), hb⟩
theorem RfI.more {w W W' : World} {A : Option Addr} {n c : Nat} {s : Rd} (h : RfI w W A n c s) (he : Ext W W') : RfI w W' A n c s := ⟨Ext.trans h.ext he, h.res.ext he, h.src.ext he⟩
structure RfJ (w W : World) (A : Option Addr) (n c gf gl many : Nat) (num : Int) (s : Rd) (xs : List Smp) : Prop where
  i : RfI w W A n c s
  fb : Blk W gf 25 #[.int .i64 num, .slice none 0 0]
  row : Own W (gf + 1) 31 5 eSm (.slice (some ⟨gl, 0, none⟩) many many) xs
  hgf : w.heap.size + 2 ≤ gf
theorem RfJ.gl {w W : World} {A : Option Addr} {n c gf gl many : Nat} {num : Int} {s : Rd} {xs : List Smp} (h : RfJ w W A n c gf gl many num s xs) : gf + 1 ≤ gl := (h.row.lt gl rfl).1
theorem RfJ.call {w W W' : World} {A : Option Addr} {n c gf gl many : Nat} {num : Int} {s s' : Rd} {xs : List Smp} (h : RfJ w W A n c gf gl many num s xs) (hb : Blk W' (w.heap.size + 1) 69 (srcC A n c s')) (ht : Tw W W' (w.heap.size + 1) none) : RfJ w W' A n c gf gl many num s' xs := by
  have h1 := h.gl
  have h2 := h.hgf
  exact ⟨h.i.call hb ht, ht.blk h.fb (by omega) (by simp), h.row.tw ht (fun e => by have e2 : gl = _ := Option.some.inj e; omega) (fun g _ e => by cases e), h.hgf⟩
theorem RfJ.set_ {w W : World} {A : Option Addr} {n c gf gl many : Nat} {num : Int} {s : Rd} {xs : List Smp} (h : RfJ w W A n c gf gl many num s xs) (k j : Nat) (hk : k < many) (hj : j < 5) (x : Smp) (u : Value) (hx : eSm x = (eSm (xs.getD k dS)).set j u) :
    RfJ w (W.setCell ⟨gl, k * 5 + j, none⟩ u) A n c gf gl many num s (xs.set k x) := by
  have h1 := h.gl
  have h2 := h.hgf
  exact ⟨⟨tw_ext h.i.ext (Tw.set_ _ _ _ _ _) (show w.heap.size ≤ gl by omega), h.i.res.far (show w.heap.size ≠ gl by omega) _, h.i.src.far (show w.heap.size + 1 ≠ gl by omega) _⟩, h.fb.far (show gf ≠ gl by omega) _, h.row.setF len_eSm dS k j hk hj x u hx, h.hgf⟩
theorem RfJ.cell {w W : World} {A : Option Addr} {n c gf gl many : Nat} {num : Int} {s : Rd} {xs : List Smp} (h : RfJ w W A n c gf gl many num s xs) {k : Nat} (hk : k < many) (j : Nat) (u : Value) (hu : (eSm (xs.getD k dS))[j]? = some u) : W.cell? ⟨gl, k * 5 + j, none⟩ = some u := by
  have := (h.row.atS len_eSm).cellK hk dS j u hu
  rwa [Nat.zero_add] at this
theorem RfJ.more {w W W' : World} {A : Option Addr} {n c gf gl many : Nat} {num : Int} {s : Rd} {xs : List Smp} (h : RfJ w W A n c gf gl many num s xs) (he : Ext W W') : RfJ w W' A n c gf gl many num s xs := ⟨h.i.more he, h.fb.ext he, h.row.ext he, h.hgf⟩
/-- What ReadFragment gives. -/
def RfGives (w : World) (b : List UInt8) (e : Ending) (w' : World) : Prop := Ext w w' ∧ ∃ N k c, e = .returned (.tuple #[.agg #[.int .i64 (rfN b), .slice N k c], .int .i64 (rfA b), .int .i64 (rfF b)]) ∧ At w' 5 eSm N k c (rfL b)
theorem RfGives.no {w w' : World} {b : List UInt8} {p f : Int} (hf : rfF b = f) (hp : rfA b = p) (h0 : f ≠ 0) (he : Ext w w') : RfGives w b (.returned (.tuple #[.agg #[.int .i64 0, .slice none 0 0], .int .i64 p, .int .i64 f])) w' := by
  refine ⟨he, none, 0, 0, ?_, ?_⟩
  · unfold rfN; rw [hp, hf, if_neg h0]
  · unfold rfL; rw [hf, if_neg h0]; exact At.nil _ _ _
theorem and2 : ∀ m, m < 16 → m &&& 2 = if m / 2 % 2 = 1 then 2 else 0 := by decide
theorem and1 : ∀ m, m < 16 → m &&& 1 = if m % 2 = 1 then 1 else 0 := by decide
theorem and4 : ∀ m, m < 16 → m &&& 4 = if m / 4 % 2 = 1 then 4 else 0 := by decide
theorem and8 : ∀ m, m < 16 → m &&& 8 = if 8 ≤ m then 8 else 0 := by decide
theorem mkSm_nought {n : Nat} {tm : Nat → Int} {st : List Nat} {sz : List Nat} {ky : List Bool} (k : Nat) : mkSm n tm st (List.replicate k 0) sz ky = mkSm n tm st (List.replicate (k + 1) 0) sz ky := by
  unfold mkSm
  apply List.map_congr_left
  intro i _
  have h : ∀ j, (List.replicate j (0 : Int)).getD i 0 = 0 := fun j => by
    rw [List.getD_eq_getElem?_getD, List.getElem?_replicate]; split <;> rfl
  rw [h, h]
set_option linter.unusedVariables false in
set_option linter.unusedSimpArgs false in
set_option maxRecDepth 100000 in
set_option maxHeartbeats 16000000 in
theorem keyReadFrag_any {A : Option Addr} {n c : Nat} {b : List UInt8} {w : World} (h : At w 1 e8 A n c b) :
    Calls Try.prog 10 #[.slice A n c] w (RfGives w b) := by
  have hl := h.len
  have hbd := h.bound
  have HNE : Hid (0 < n → ∀ a, A = some a → a.block ≠ w.heap.size + 1) := hide (fun hn a ha => by have := h.blk_lt len_e8 (by omega) hn a ha; omega)
  have H := hide h
  have HL := hide hl
  have hp1 := (head_pos b).1
  have hp2 := (head_pos b).2.1
  have hp3 := (head_pos b).2.2.1
  have hp4 := (head_pos b).2.2.2
  rw [hl] at hp1 hp2 hp3 hp4
  have hv1 : (h1F b).1 < 4294967296 := rdN_lt (b := b) (k := 4) ⟨0, false⟩ (by omega)
  have hv3 : (h3F b).1 < 65536 := rdN_lt (b := b) (k := 2) (h2F b).2 (by omega)
  have hv4 : (h4F b).1 < 256 := rdF_lt _
  have HV4 : Hid ((h4F b).2.bad = false → (h4F b).1 ≤ 15) := hide (fun hh => rdF_le hh)
  have HC1 := hide (fun (W : World) (hI : RfI w W A n c ⟨0, false⟩) => srcN 4 4 rfl hI.src (H.out.ext hI.ext) HNE.out (Nat.zero_le _) (by omega))
  have HC2 := hide (fun (W : World) (hI : RfI w W A n c (h1F b).2) => srcN 8 8 rfl hI.src (H.out.ext hI.ext) HNE.out hp1 (by omega))
  have HC3 := hide (fun (W : World) (hI : RfI w W A n c (h2F b).2) => srcN 2 2 rfl hI.src (H.out.ext hI.ext) HNE.out hp2 (by omega))
  have HC4 := hide (fun (W : World) (hI : RfI w W A n c (h3F b).2) => srcFl 15 15 rfl hI.src (H.out.ext hI.ext) HNE.out hp3 (by omega))
  have w4_ : IntKind.i64.wrap ((h1F b).1 : Int) = ((h1F b).1 : Int) := by rw [IntKind.wrap_i64]; omega
  have w2_ : IntKind.i64.wrap ((h3F b).1 : Int) = ((h3F b).1 : Int) := by rw [IntKind.wrap_i64]; omega
  have HTF : Hid (tF b = IntKind.i64.wrap ((h2F b).1 : Int)) := hide rfl
  have W4 := hide w4_
  have W2 := hide w2_
  clear h hl w4_ w2_
  go_enter Try.func10, Try.ntmps10
  go_upto_region 2 with (fail)
  refine gen_wpC fun w1 h1 => ?_
  have I1 : Hid (RfI w w1 A n c ⟨0, false⟩) := hide (by
    rw [h1]
    refine ⟨Ext.trans (Ext.alloc _ _) (Ext.alloc _ _), (Blk.new _ _ _).alloc _, ?_⟩
    have := Blk.new (w.alloc (.cells #[.int .i64 0, .slice none 0 0] 25)) 69 (srcC A n c ⟨0, false⟩)
    rw [World.size_alloc] at this
    exact this)
  clear h1
  go_wp2_with fail
  with_reducible refine (HC1.out _ I1.out).mono ?_
  rintro e w2 ⟨rfl, b2, t2⟩
  have I2 : Hid (RfI w w2 A n c (h1F b).2) := hide (I1.out.call b2 t2)
  have hsz2 := I2.out.src.lt
  have u4 : IntKind.i64.wrap ((rdN b 4 ⟨0, false⟩).1 : Int) = ((h1F b).1 : Int) := W4.out
  clear b2 t2 I1 HC1
  go_upto_region 3 with (fail)
  refine gen_wpC fun w3 h3 => ?_
  obtain ⟨gf, hgf⟩ : ∃ gf, gf = w2.heap.size := ⟨_, rfl⟩
  rw [← hgf]
  have FB3 : Hid (Blk w3 gf 25 #[.int .i64 ((h1F b).1 : Int), .slice none 0 0]) := hide (by rw [h3, hgf]; exact Blk.new _ _ _)
  have I3 : Hid (RfI w w3 A n c (h1F b).2) := hide (by rw [h3]; exact I2.out.more (Ext.alloc _ _))
  have hgf2 : w.heap.size + 2 ≤ gf := by omega
  clear h3 hgf I2 hsz2 u4
  go_wp2_with fail
  with_reducible refine (HC2.out _ I3.out).mono ?_
  rintro e w4 ⟨rfl, b4, t4⟩
  have I4 : Hid (RfI w w4 A n c (h2F b).2) := hide (I3.out.call b4 t4)
  have FB4 := hide (t4.blk FB3.out (by omega) (by simp))
  have u8_ : IntKind.i64.wrap ((rdN b 8 (h1F b).2).1 : Int) = tF b := HTF.out.symm
  clear b4 t4 I3 FB3 HC2
  go_wp2_with fail
  with_reducible refine (HC3.out _ I4.out).mono ?_
  rintro e w5 ⟨rfl, b5, t5⟩
  have I5 : Hid (RfI w w5 A n c (h3F b).2) := hide (I4.out.call b5 t5)
  have FB5 := hide (t5.blk FB4.out (by omega) (by simp))
  have u2 : IntKind.i64.wrap ((rdN b 2 (h2F b).2).1 : Int) = (nF b : Int) := W2.out
  clear b5 t5 I4 FB4 HC3 u8_
  go_wp2_with fail
  with_reducible refine (HC4.out _ I5.out).mono ?_
  rintro e w6 ⟨rfl, b6, t6⟩
  have I6 : Hid (RfI w w6 A n c (h4F b).2) := hide (I5.out.call b6 t6)
  have FB6 := hide (t6.blk FB5.out (by omega) (by simp))
  have e4 : (rdF b 15 (h3F b).2).1 = (h4F b).1 := rfl
  rw [e4]
  have s1 : w6.cell? ⟨w.heap.size + 1, 1, none⟩ = some (.int .i64 ((h4F b).2.pos : Int)) := I6.out.src.cell 1
  have s2 : w6.cell? ⟨w.heap.size + 1, 2, none⟩ = some (.bool (h4F b).2.bad) := I6.out.src.cell 2
  have hmany : nF b < 65536 := hv3
  have hnum0 : (h1F b).1 < 4294967296 := hv1
  have HEB : Hid ((h4F b).2.bad = true → rfF b = 10 ∧ rfA b = ((h4F b).2.pos : Int)) := hide (fun hh => by
    have := end_bad hh
    unfold rfF rfA
    rw [this, hh]
    exact ⟨rfl, rfl⟩)
  clear b6 t6 I5 FB5 HC4 e4 u2
  have HPC := hide (fun (k : Nat) => (⟨c1_pos b k, c2_pos b k, c3_pos b k, c4_pos b k⟩ : (c1F b k).2.pos ≤ b.length ∧ (c2F b k).2.pos ≤ b.length ∧ (c3F b k).2.pos ≤ b.length ∧ (c4F b k).2.pos ≤ b.length))
  obtain ⟨bd, hbd⟩ : ∃ bd, bd = (h4F b).2.bad := ⟨_, rfl⟩
  rw [← hbd] at s2 HV4 HEB
  cases bd with
  | true =>
    have HR := hide (HEB.out rfl)
    generalize (h4F b).2.pos = ps at *
    clear hbd HEB HV4
    go_wp2_with fail
    have I7 := hide I6.out
    have z0 := I7.out.res.frozen 0
    have z1 := I7.out.res.frozen 1
    have y0 : w6.cell? ⟨w.heap.size, 0, none⟩ = some (.int .i64 0) := I7.out.res.cell 0
    have y1 : w6.cell? ⟨w.heap.size, 1, none⟩ = some (.slice none 0 0) := I7.out.res.cell 1
    go_region
    go_wp2_with fail
    refine gen_bod fun w8 h8 => ?_
    have E8 : Hid (Ext w w8) := hide (by rw [h8]; exact tw_ext I7.out.ext (((Tw.set_ _ _ _ _ _).trans (Tw.set_ _ _ _ _ _)).drew) (Nat.le_refl _))
    have R8 : Hid (Blk w8 w.heap.size 25 #[.int .i64 0, .slice none 0 0]) := hide (by rw [h8]; exact ((I7.out.res.set_ 0 _).set_ 1 _).drew)
    have k0 : w8.cell? ⟨w.heap.size, 0, none⟩ = some (.int .i64 0) := R8.out.cell 0
    have k1 : w8.cell? ⟨w.heap.size, 1, none⟩ = some (.slice none 0 0) := R8.out.cell 1
    refine bodyPost_ret (v := .tuple #[.agg #[.int .i64 0, .slice none 0 0], .int .i64 (ps : Int), .int .i64 10]) (by simp [results, Try.results10, go_sem, k0, k1]) rfl (RfGives.no HR.out.1 HR.out.2 (by omega) E8.out)
  | false =>
    have hm15 : (h4F b).1 < 16 := by have := HV4.out rfl; omega
    have Q1 : Hid (bits .and .u8 ((h4F b).1 : Int) 1 = if oneS b = true then 1 else 0) := hide (by rw [u8_and _ _ (by omega) (by omega) (by omega) (by omega), Int.toNat_natCast, show (1 : Int).toNat = 1 from rfl, and1 _ hm15]; unfold oneS; by_cases h : (h4F b).1 % 2 = 1 <;> simp [h])
    have Q2 : Hid (bits .and .u8 ((h4F b).1 : Int) 2 = if noH b = true then 2 else 0) := hide (by rw [u8_and _ _ (by omega) (by omega) (by omega) (by omega), Int.toNat_natCast, show (2 : Int).toNat = 2 from rfl, and2 _ hm15]; unfold noH; by_cases h : (h4F b).1 / 2 % 2 = 1 <;> simp [h])
    have Q4 : Hid (bits .and .u8 ((h4F b).1 : Int) 4 = if oneZ b = true then 4 else 0) := hide (by rw [u8_and _ _ (by omega) (by omega) (by omega) (by omega), Int.toNat_natCast, show (4 : Int).toNat = 4 from rfl, and4 _ hm15]; unfold oneZ; by_cases h : (h4F b).1 / 4 % 2 = 1 <;> simp [h])
    have Q8 : Hid (bits .and .u8 ((h4F b).1 : Int) 8 = if fstK b = true then 8 else 0) := hide (by rw [u8_and _ _ (by omega) (by omega) (by omega) (by omega), Int.toNat_natCast, show (8 : Int).toNat = 8 from rfl, and8 _ hm15]; unfold fstK; by_cases h : 8 ≤ (h4F b).1 <;> simp [h])
    obtain ⟨i0_, hi0, hz0, hz1, hz2⟩ := info_parts Try.info31
    have hmk := made_run (P := Try.prog) 23 31 i0_ _ Try.underlying23 hi0 hz0 (sz := 5) hz1 (bytes := 40) hz2 (nF b) (by omega) (by omega)
    have HMO := hide (fun (W : World) (base : Nat) (hb : base ≤ W.heap.size) => made_own (enc := eSm) (x := dS) (t := 31) (z := (Value.agg #[.int .i64 0, .int .i64 0, .int .i64 0, .int .i64 0, .bool false]).cells) (sz := 5) rfl rfl (by omega) W base (nF b) hb (by unfold maxLen; omega))
    have HM0 : Hid (List.replicate (nF b) dS = mkSm (nF b) (fun _ => 0) (c1F b 0).1 [] [] []) := hide (by
      apply List.ext_getElem?
      intro i
      unfold mkSm
      rw [List.getElem?_map, List.getElem?_replicate]
      by_cases hi : i < nF b
      · rw [if_pos hi, List.getElem?_range hi]; rfl
      · rw [if_neg hi, List.getElem?_eq_none (by simp; omega)]; rfl)
    have HI0 : Hid ((c1F b 0).2 = (h4F b).2) := hide rfl
    clear hbd HEB HV4 hi0 hz0 hz1 hz2
    generalize hmm : (h4F b).1 = m at *
    have HMM := hide hmm
    clear hmm
    go_upto_region 9 with (fail)
    refine gen_wpC fun w7 h7 => ?_
    obtain ⟨gl, hgl⟩ : ∃ gl, gl = w6.heap.size := ⟨_, rfl⟩
    rw [← hgl]
    have J7 : Hid (RfJ w w7 A n c gf gl (nF b) ((h1F b).1 : Int) (c1F b 0).2 (mkSm (nF b) (fun _ => 0) (c1F b 0).1 [] [] [])) := hide (by
      rw [← HM0.out, HI0.out, h7, hgl]
      exact ⟨I6.out.more (Ext.alloc _ _), FB6.out.alloc _, HMO.out _ _ FB6.out.lt, hgf2⟩)
    clear h7 hgl I6 FB6 HMO s1 s2 hmk HM0
    go_wp2_with fail
    skip
    go_loopw [45] (fun ri wr => ∃ k : Nat, k ≤ nF b ∧ ri = .int .i64 k ∧ Hid (RfJ w wr A n c gf gl (nF b) ((h1F b).1 : Int) (c1F b k).2 (mkSm (nF b) (fun _ => 0) (c1F b k).1 [] [] []))) (fun ri _ => nF b - (intOf ri).toNat)
    case atStart => exact ⟨0, by omega, rfl, J7⟩
    case round =>
      obtain ⟨k, hk, rfl, HJ⟩ := hrel
      by_cases hlt : k < nF b
      · have i0 : (k : Int) < (nF b : Int) := by omega
        have i9 : (0 : Int) ≤ (k : Int) := by omega
        have i8 : IntKind.i64.wrap ((k : Int) + 1) = (k : Int) + 1 := by rw [IntKind.wrap_i64]; omega
        have i7 : (0 : Int) < (nF b : Int) := by omega
        have HLK : Hid ((c1F b k).1.length = k) := hide (colF_len b (oneS b) (h4F b).2 k)
        rcases Nat.eq_zero_or_pos k with hk0 | hk0
        · have d0 : decide ((0 : Int) < (k : Int)) = false := by simp; omega
          have d1 : decide (0 < k) = false := by simp; omega
          have HCL := hide (srcN 4 4 rfl HJ.out.i.src (H.out.ext HJ.out.i.ext) HNE.out (by have := (HPC.out k).1; rwa [HL.out] at this) (by omega))
          have hq : (rdN b 4 (c1F b k).2).1 < 4294967296 := rdN_lt (b := b) (k := 4) (c1F b k).2 (by omega)
          obtain ⟨q, hqq⟩ : ∃ q, q = rdN b 4 (c1F b k).2 := ⟨_, rfl⟩
          rw [← hqq] at hq HCL
          have HQQ := hide hqq
          clear hqq
          obtain ⟨qv, qs⟩ := q
          have hq : qv < 4294967296 := hq
          have HCL := hide (by have := HCL.out; exact this : Calls Try.prog 32 #[.pointer (some ⟨w.heap.size + 1, 0, none⟩), .int .i64 4] wr fun e w' => e = .returned (.int .u64 (qv : Int)) ∧ Blk w' (w.heap.size + 1) 69 (srcC A n c qs) ∧ Tw wr w' (w.heap.size + 1) none)
          have HSV : Hid ((c1F b (k + 1)).1 = (c1F b k).1 ++ [qv]) := hide (by show (colF b (oneS b) (k + 1) (h4F b).2).1 = _; rw [colF, if_neg (fun h => by omega)]; show _ ++ [(rdN b 4 (c1F b k).2).1] = _; rw [← HQQ.out]; rfl)
          have HSS : Hid ((c1F b (k + 1)).2 = qs) := hide (by show (colF b (oneS b) (k + 1) (h4F b).2).2 = _; rw [colF, if_neg (fun h => by omega)]; show (rdN b 4 (c1F b k).2).2 = _; rw [← HQQ.out])
          have uq : IntKind.i64.wrap (qv : Int) = (qv : Int) := by rw [IntKind.wrap_i64]; omega
          clear hk0
          go_wp2_with fail
          with_reducible refine HCL.out.mono ?_
          rintro e w8 ⟨rfl, b8, t8⟩
          have J8 := hide (HJ.out.call b8 t8)
          have z8 : w8.frozen? ⟨gl, k * 5 + 1, none⟩ = false := J8.out.row.frozenF _
          have y8 := J8.out.cell hlt 1 _ rfl
          clear b8 t8
          go_wp2_with fail
          exact ⟨⟨k + 1, by omega, by go_num, hide (by rw [HSS.out, HSV.out, ← mkSm_step qv hlt HLK.out]; exact J8.out.set_ k 1 hlt (by omega) _ _ rfl)⟩, by simp [intOf]; omega⟩
        · have d0 : decide ((0 : Int) < (k : Int)) = true := by simp; omega
          have d1 : decide (0 < k) = true := by simp; omega
          cases hfl : oneS b with
          | true =>
            have qq := Q1.out
            rw [hfl] at qq
            simp only [if_true] at qq
            have HSV : Hid ((c1F b (k + 1)).1 = (c1F b k).1 ++ [(c1F b k).1.getD 0 0]) := hide (by show (colF b (oneS b) (k + 1) (h4F b).2).1 = _; rw [colF, if_pos ⟨hk0, hfl⟩]; rfl)
            have HSS : Hid ((c1F b (k + 1)).2 = (c1F b k).2) := hide (by show (colF b (oneS b) (k + 1) (h4F b).2).2 = _; rw [colF, if_pos ⟨hk0, hfl⟩]; rfl)
            have x0a := HJ.out.cell (k := 0) (by omega) 1 _ rfl
            rw [Nat.zero_mul, Nat.zero_add, mkSm_get (by omega)] at x0a
            have x0 : wr.cell? ⟨gl, 1, none⟩ = some (.int .i64 (((c1F b k).1.getD 0 0 : Nat) : Int)) := x0a
            clear x0a
            have HX0 : Hid (∃ q, q = (c1F b k).1.getD 0 0) := hide ⟨_, rfl⟩
            obtain ⟨qv, hqv⟩ := HX0.out
            rw [← hqv] at x0 HSV
            have z8 : wr.frozen? ⟨gl, k * 5 + 1, none⟩ = false := HJ.out.row.frozenF _
            have y8 := HJ.out.cell hlt 1 _ rfl
            clear hk0 hfl hqv HX0
            go_wp2_with fail
            exact ⟨⟨k + 1, by omega, by go_num, hide (by rw [HSS.out, HSV.out, ← mkSm_step qv hlt HLK.out]; exact HJ.out.set_ k 1 hlt (by omega) _ _ rfl)⟩, by simp [intOf]; omega⟩
          | false =>
            have qq := Q1.out
            rw [hfl] at qq
            simp only [Bool.false_eq_true, if_false] at qq
            have HCL := hide (srcN 4 4 rfl HJ.out.i.src (H.out.ext HJ.out.i.ext) HNE.out (by have := (HPC.out k).1; rwa [HL.out] at this) (by omega))
            have hq : (rdN b 4 (c1F b k).2).1 < 4294967296 := rdN_lt (b := b) (k := 4) (c1F b k).2 (by omega)
            obtain ⟨q, hqq⟩ : ∃ q, q = rdN b 4 (c1F b k).2 := ⟨_, rfl⟩
            rw [← hqq] at hq HCL
            have HQQ := hide hqq
            clear hqq
            obtain ⟨qv, qs⟩ := q
            have hq : qv < 4294967296 := hq
            have HCL := hide (by have := HCL.out; exact this : Calls Try.prog 32 #[.pointer (some ⟨w.heap.size + 1, 0, none⟩), .int .i64 4] wr fun e w' => e = .returned (.int .u64 (qv : Int)) ∧ Blk w' (w.heap.size + 1) 69 (srcC A n c qs) ∧ Tw wr w' (w.heap.size + 1) none)
            have HSV : Hid ((c1F b (k + 1)).1 = (c1F b k).1 ++ [qv]) := hide (by show (colF b (oneS b) (k + 1) (h4F b).2).1 = _; rw [colF, if_neg (fun h => by rw [hfl] at h; cases h.2)]; show _ ++ [(rdN b 4 (c1F b k).2).1] = _; rw [← HQQ.out]; rfl)
            have HSS : Hid ((c1F b (k + 1)).2 = qs) := hide (by show (colF b (oneS b) (k + 1) (h4F b).2).2 = _; rw [colF, if_neg (fun h => by rw [hfl] at h; cases h.2)]; show (rdN b 4 (c1F b k).2).2 = _; rw [← HQQ.out])
            have uq : IntKind.i64.wrap (qv : Int) = (qv : Int) := by rw [IntKind.wrap_i64]; omega
            clear hk0 hfl
            go_wp2_with fail
            with_reducible refine HCL.out.mono ?_
            rintro e w8 ⟨rfl, b8, t8⟩
            have J8 := hide (HJ.out.call b8 t8)
            have z8 : w8.frozen? ⟨gl, k * 5 + 1, none⟩ = false := J8.out.row.frozenF _
            have y8 := J8.out.cell hlt 1 _ rfl
            clear b8 t8
            go_wp2_with fail
            exact ⟨⟨k + 1, by omega, by go_num, hide (by rw [HSS.out, HSV.out, ← mkSm_step qv hlt HLK.out]; exact J8.out.set_ k 1 hlt (by omega) _ _ rfl)⟩, by simp [intOf]; omega⟩
      · obtain rfl : k = nF b := by omega
        have i0 : ¬ (nF b : Int) < (nF b : Int) := by omega
        have JN := hide HJ.out
        clear HJ hk hlt
        go_wp2_with fail
        skip
        go_loopw [73] (fun ri wr => ∃ k : Nat, k ≤ nF b ∧ ri = .int .i64 k ∧ Hid (RfJ w wr A n c gf gl (nF b) ((h1F b).1 : Int) (c2F b k).2 (mkSm (nF b) (fun _ => 0) (c1F b (nF b)).1 (c2F b k).1 [] []))) (fun ri _ => nF b - (intOf ri).toNat)
        case atStart => exact ⟨0, by omega, rfl, hide (by show RfJ _ _ _ _ _ _ _ _ _ (colO b (noH b) 0 (c1F b (nF b)).2).2 _; rw [show (colO b (noH b) 0 (c1F b (nF b)).2).2 = (c1F b (nF b)).2 from by unfold colO; split <;> rfl, show (c2F b 0).1 = [] from by unfold c2F colO; split <;> rfl]; exact JN.out)⟩
        case round =>
          obtain ⟨k, hk, rfl, HJ⟩ := hrel
          by_cases hlt : k < nF b
          · have i0 : (k : Int) < (nF b : Int) := by omega
            have i9 : (0 : Int) ≤ (k : Int) := by omega
            have i8 : IntKind.i64.wrap ((k : Int) + 1) = (k : Int) + 1 := by rw [IntKind.wrap_i64]; omega
            have i7 : (0 : Int) < (nF b : Int) := by omega
            have HLK : Hid ((c2F b k).1.length = k) := hide (colO_len b (noH b) (c1F b (nF b)).2 k)
            cases hfl : noH b with
            | true =>
              have qq := Q2.out
              rw [hfl] at qq
              simp only [if_true] at qq
              have HSS : Hid ((c2F b (k + 1)).2 = (c2F b k).2 ∧ mkSm (nF b) (fun _ => 0) (c1F b (nF b)).1 (c2F b k).1 [] [] = mkSm (nF b) (fun _ => 0) (c1F b (nF b)).1 (c2F b (k + 1)).1 [] []) := hide (by unfold c2F colO; rw [hfl]; exact ⟨rfl, mkSm_nought k⟩)
              clear hfl
              go_wp2_with fail
              exact ⟨⟨k + 1, by omega, by go_num, hide (by rw [HSS.out.1, ← HSS.out.2]; exact HJ.out)⟩, by simp [intOf]; omega⟩
            | false =>
              have qq := Q2.out
              rw [hfl] at qq
              simp only [Bool.false_eq_true, if_false] at qq
              have HCL := hide (srcN 4 4 rfl HJ.out.i.src (H.out.ext HJ.out.i.ext) HNE.out (by have := (HPC.out k).2.1; rwa [HL.out] at this) (by omega))
              have hq : (rdN b 4 (c2F b k).2).1 < 4294967296 := rdN_lt (b := b) (k := 4) (c2F b k).2 (by omega)
              obtain ⟨q, hqq⟩ : ∃ q, q = rdN b 4 (c2F b k).2 := ⟨_, rfl⟩
              rw [← hqq] at hq HCL
              have HQQ := hide hqq
              clear hqq
              obtain ⟨qv, qs⟩ := q
              have hq : qv < 4294967296 := hq
              have HCL := hide (by have := HCL.out; exact this : Calls Try.prog 32 #[.pointer (some ⟨w.heap.size + 1, 0, none⟩), .int .i64 4] wr fun e w' => e = .returned (.int .u64 (qv : Int)) ∧ Blk w' (w.heap.size + 1) 69 (srcC A n c qs) ∧ Tw wr w' (w.heap.size + 1) none)
              have HSV : Hid ((c2F b (k + 1)).1 = (c2F b k).1 ++ [sgn4 qv]) := hide (by
                have e0 : (c2F b k).2 = (colF b false k (c1F b (nF b)).2).2 := by unfold c2F colO; rw [hfl]; rfl
                have e1 : qv = (rdN b 4 (colF b false k (c1F b (nF b)).2).2).1 := by rw [← e0, ← HQQ.out]
                unfold c2F colO; rw [hfl]
                show (colF b false (k + 1) (c1F b (nF b)).2).1.map sgn4 = (colF b false k (c1F b (nF b)).2).1.map sgn4 ++ [sgn4 qv]
                rw [colF, if_neg (fun h => by cases h.2), List.map_append, e1]; rfl)
              have HSS : Hid ((c2F b (k + 1)).2 = qs) := hide (by
                have e0 : (c2F b k).2 = (colF b false k (c1F b (nF b)).2).2 := by unfold c2F colO; rw [hfl]; rfl
                have e1 : qs = (rdN b 4 (colF b false k (c1F b (nF b)).2).2).2 := by rw [← e0, ← HQQ.out]
                unfold c2F colO; rw [hfl]
                show (colF b false (k + 1) (c1F b (nF b)).2).2 = qs
                rw [colF, if_neg (fun h => by cases h.2), e1])
              have hsg : -2147483648 ≤ sgn4 qv ∧ sgn4 qv < 2147483648 := by unfold sgn4; split <;> omega
              have uq : IntKind.i32.wrap (qv : Int) = sgn4 qv := by rw [IntKind.wrap_i32]; unfold sgn4; split <;> omega
              have uq2 : IntKind.i64.wrap (sgn4 qv) = sgn4 qv := by rw [IntKind.wrap_i64]; omega
              clear hfl
              go_wp2_with fail
              with_reducible refine HCL.out.mono ?_
              rintro e w8 ⟨rfl, b8, t8⟩
              have J8 := hide (HJ.out.call b8 t8)
              have z8 : w8.frozen? ⟨gl, k * 5 + 2, none⟩ = false := J8.out.row.frozenF _
              have y8 := J8.out.cell hlt 2 _ rfl
              clear b8 t8
              go_wp2_with fail
              exact ⟨⟨k + 1, by omega, by go_num, hide (by rw [HSS.out, HSV.out, ← mkSm_shift (sgn4 qv) hlt HLK.out]; exact J8.out.set_ k 2 hlt (by omega) _ _ rfl)⟩, by simp [intOf]; omega⟩
          · obtain rfl : k = nF b := by omega
            have i0 : ¬ (nF b : Int) < (nF b : Int) := by omega
            have JN := hide HJ.out
            clear HJ hk hlt
            go_wp2_with fail
            skip
            go_loopw [90] (fun ri wr => ∃ k : Nat, k ≤ nF b ∧ ri = .int .i64 k ∧ Hid (RfJ w wr A n c gf gl (nF b) ((h1F b).1 : Int) (c3F b k).2 (mkSm (nF b) (fun _ => 0) (c1F b (nF b)).1 (c2F b (nF b)).1 (c3F b k).1 []))) (fun ri _ => nF b - (intOf ri).toNat)
            case atStart => exact ⟨0, by omega, rfl, hide (by show RfJ _ _ _ _ _ _ _ _ _ (c2F b (nF b)).2 _; exact JN.out)⟩
            case round =>
              obtain ⟨k, hk, rfl, HJ⟩ := hrel
              by_cases hlt : k < nF b
              · have i0 : (k : Int) < (nF b : Int) := by omega
                have i9 : (0 : Int) ≤ (k : Int) := by omega
                have i8 : IntKind.i64.wrap ((k : Int) + 1) = (k : Int) + 1 := by rw [IntKind.wrap_i64]; omega
                have i7 : (0 : Int) < (nF b : Int) := by omega
                have HLK : Hid ((c3F b k).1.length = k) := hide (colF_len b (oneZ b) (c2F b (nF b)).2 k)
                rcases Nat.eq_zero_or_pos k with hk0 | hk0
                · have d0 : decide ((0 : Int) < (k : Int)) = false := by simp; omega
                  have d1 : decide (0 < k) = false := by simp; omega
                  have HCL := hide (srcN 4 4 rfl HJ.out.i.src (H.out.ext HJ.out.i.ext) HNE.out (by have := (HPC.out k).2.2.1; rwa [HL.out] at this) (by omega))
                  have hq : (rdN b 4 (c3F b k).2).1 < 4294967296 := rdN_lt (b := b) (k := 4) (c3F b k).2 (by omega)
                  obtain ⟨q, hqq⟩ : ∃ q, q = rdN b 4 (c3F b k).2 := ⟨_, rfl⟩
                  rw [← hqq] at hq HCL
                  have HQQ := hide hqq
                  clear hqq
                  obtain ⟨qv, qs⟩ := q
                  have hq : qv < 4294967296 := hq
                  have HCL := hide (by have := HCL.out; exact this : Calls Try.prog 32 #[.pointer (some ⟨w.heap.size + 1, 0, none⟩), .int .i64 4] wr fun e w' => e = .returned (.int .u64 (qv : Int)) ∧ Blk w' (w.heap.size + 1) 69 (srcC A n c qs) ∧ Tw wr w' (w.heap.size + 1) none)
                  have HSV : Hid ((c3F b (k + 1)).1 = (c3F b k).1 ++ [qv]) := hide (by show (colF b (oneZ b) (k + 1) (c2F b (nF b)).2).1 = _; rw [colF, if_neg (fun h => by omega)]; show _ ++ [(rdN b 4 (c3F b k).2).1] = _; rw [← HQQ.out]; rfl)
                  have HSS : Hid ((c3F b (k + 1)).2 = qs) := hide (by show (colF b (oneZ b) (k + 1) (c2F b (nF b)).2).2 = _; rw [colF, if_neg (fun h => by omega)]; show (rdN b 4 (c3F b k).2).2 = _; rw [← HQQ.out])
                  have uq : IntKind.i64.wrap (qv : Int) = (qv : Int) := by rw [IntKind.wrap_i64]; omega
                  clear hk0
                  go_wp2_with fail
                  with_reducible refine HCL.out.mono ?_
                  rintro e w8 ⟨rfl, b8, t8⟩
                  have J8 := hide (HJ.out.call b8 t8)
                  have z8 : w8.frozen? ⟨gl, k * 5 + 3, none⟩ = false := J8.out.row.frozenF _
                  have y8 := J8.out.cell hlt 3 _ rfl
                  clear b8 t8
                  go_wp2_with fail
                  exact ⟨⟨k + 1, by omega, by go_num, hide (by rw [HSS.out, HSV.out, ← mkSm_size qv hlt HLK.out]; exact J8.out.set_ k 3 hlt (by omega) _ _ rfl)⟩, by simp [intOf]; omega⟩
                · have d0 : decide ((0 : Int) < (k : Int)) = true := by simp; omega
                  have d1 : decide (0 < k) = true := by simp; omega
                  cases hfl : oneZ b with
                  | true =>
                    have qq := Q4.out
                    rw [hfl] at qq
                    simp only [if_true] at qq
                    have HSV : Hid ((c3F b (k + 1)).1 = (c3F b k).1 ++ [(c3F b k).1.getD 0 0]) := hide (by show (colF b (oneZ b) (k + 1) (c2F b (nF b)).2).1 = _; rw [colF, if_pos ⟨hk0, hfl⟩]; rfl)
                    have HSS : Hid ((c3F b (k + 1)).2 = (c3F b k).2) := hide (by show (colF b (oneZ b) (k + 1) (c2F b (nF b)).2).2 = _; rw [colF, if_pos ⟨hk0, hfl⟩]; rfl)
                    have x0a := HJ.out.cell (k := 0) (by omega) 3 _ rfl
                    rw [Nat.zero_mul, Nat.zero_add, mkSm_get (by omega)] at x0a
                    have x0 : wr.cell? ⟨gl, 3, none⟩ = some (.int .i64 (((c3F b k).1.getD 0 0 : Nat) : Int)) := x0a
                    clear x0a
                    have HX0 : Hid (∃ q, q = (c3F b k).1.getD 0 0) := hide ⟨_, rfl⟩
                    obtain ⟨qv, hqv⟩ := HX0.out
                    rw [← hqv] at x0 HSV
                    have z8 : wr.frozen? ⟨gl, k * 5 + 3, none⟩ = false := HJ.out.row.frozenF _
                    have y8 := HJ.out.cell hlt 3 _ rfl
                    clear hk0 hfl hqv HX0
                    go_wp2_with fail
                    exact ⟨⟨k + 1, by omega, by go_num, hide (by rw [HSS.out, HSV.out, ← mkSm_size qv hlt HLK.out]; exact HJ.out.set_ k 3 hlt (by omega) _ _ rfl)⟩, by simp [intOf]; omega⟩
                  | false =>
                    have qq := Q4.out
                    rw [hfl] at qq
                    simp only [Bool.false_eq_true, if_false] at qq
                    have HCL := hide (srcN 4 4 rfl HJ.out.i.src (H.out.ext HJ.out.i.ext) HNE.out (by have := (HPC.out k).2.2.1; rwa [HL.out] at this) (by omega))
                    have hq : (rdN b 4 (c3F b k).2).1 < 4294967296 := rdN_lt (b := b) (k := 4) (c3F b k).2 (by omega)
                    obtain ⟨q, hqq⟩ : ∃ q, q = rdN b 4 (c3F b k).2 := ⟨_, rfl⟩
                    rw [← hqq] at hq HCL
                    have HQQ := hide hqq
                    clear hqq
                    obtain ⟨qv, qs⟩ := q
                    have hq : qv < 4294967296 := hq
                    have HCL := hide (by have := HCL.out; exact this : Calls Try.prog 32 #[.pointer (some ⟨w.heap.size + 1, 0, none⟩), .int .i64 4] wr fun e w' => e = .returned (.int .u64 (qv : Int)) ∧ Blk w' (w.heap.size + 1) 69 (srcC A n c qs) ∧ Tw wr w' (w.heap.size + 1) none)
                    have HSV : Hid ((c3F b (k + 1)).1 = (c3F b k).1 ++ [qv]) := hide (by show (colF b (oneZ b) (k + 1) (c2F b (nF b)).2).1 = _; rw [colF, if_neg (fun h => by rw [hfl] at h; cases h.2)]; show _ ++ [(rdN b 4 (c3F b k).2).1] = _; rw [← HQQ.out]; rfl)
                    have HSS : Hid ((c3F b (k + 1)).2 = qs) := hide (by show (colF b (oneZ b) (k + 1) (c2F b (nF b)).2).2 = _; rw [colF, if_neg (fun h => by rw [hfl] at h; cases h.2)]; show (rdN b 4 (c3F b k).2).2 = _; rw [← HQQ.out])
                    have uq : IntKind.i64.wrap (qv : Int) = (qv : Int) := by rw [IntKind.wrap_i64]; omega
                    clear hk0 hfl
                    go_wp2_with fail
                    with_reducible refine HCL.out.mono ?_
                    rintro e w8 ⟨rfl, b8, t8⟩
                    have J8 := hide (HJ.out.call b8 t8)
                    have z8 : w8.frozen? ⟨gl, k * 5 + 3, none⟩ = false := J8.out.row.frozenF _
                    have y8 := J8.out.cell hlt 3 _ rfl
                    clear b8 t8
                    go_wp2_with fail
                    exact ⟨⟨k + 1, by omega, by go_num, hide (by rw [HSS.out, HSV.out, ← mkSm_size qv hlt HLK.out]; exact J8.out.set_ k 3 hlt (by omega) _ _ rfl)⟩, by simp [intOf]; omega⟩
              · obtain rfl : k = nF b := by omega
                have i0 : ¬ (nF b : Int) < (nF b : Int) := by omega
                have JN := hide HJ.out
                clear HJ hk hlt
                go_wp2_with fail
                skip
                go_loopw [118] (fun ri wr => ∃ k : Nat, k ≤ nF b ∧ ri = .int .i64 k ∧ Hid (RfJ w wr A n c gf gl (nF b) ((h1F b).1 : Int) (c4F b k).2 (mkSm (nF b) (fun _ => 0) (c1F b (nF b)).1 (c2F b (nF b)).1 (c3F b (nF b)).1 (c4F b k).1))) (fun ri _ => nF b - (intOf ri).toNat)
                case atStart => exact ⟨0, by omega, rfl, hide (by show RfJ _ _ _ _ _ _ _ _ _ (c3F b (nF b)).2 _; exact JN.out)⟩
                case round =>
                  obtain ⟨k, hk, rfl, HJ⟩ := hrel
                  by_cases hlt : k < nF b
                  · have i0 : (k : Int) < (nF b : Int) := by omega
                    have i9 : (0 : Int) ≤ (k : Int) := by omega
                    have i8 : IntKind.i64.wrap ((k : Int) + 1) = (k : Int) + 1 := by rw [IntKind.wrap_i64]; omega
                    have i7 : (0 : Int) < (nF b : Int) := by omega
                    have HLK : Hid ((c4F b k).1.length = k) := hide (keyF_len b (fstK b) (c3F b (nF b)).2 k)
                    cases hfl : fstK b with
                    | true =>
                      have qq := Q8.out
                      rw [hfl] at qq
                      simp only [if_true] at qq
                      have HSV : Hid ((c4F b (k + 1)).1 = (c4F b k).1 ++ [((k : Int) == 0)]) := hide (by show (keyF b (fstK b) (k + 1) (c3F b (nF b)).2).1 = _; rw [keyF, if_pos hfl, show ((k : Int) == 0) = decide (k = 0) by rw [Bool.eq_iff_iff]; simp]; rfl)
                      have HSS : Hid ((c4F b (k + 1)).2 = (c4F b k).2) := hide (by show (keyF b (fstK b) (k + 1) (c3F b (nF b)).2).2 = _; rw [keyF, if_pos hfl]; rfl)
                      have z8 : wr.frozen? ⟨gl, k * 5 + 4, none⟩ = false := HJ.out.row.frozenF _
                      have y8 := HJ.out.cell hlt 4 _ rfl
                      clear hfl
                      go_wp2_with fail
                      exact ⟨⟨k + 1, by omega, by go_num, hide (by rw [HSS.out, HSV.out, ← mkSm_key _ hlt HLK.out]; exact HJ.out.set_ k 4 hlt (by omega) _ _ rfl)⟩, by simp [intOf]; omega⟩
                    | false =>
                      have qq := Q8.out
                      rw [hfl] at qq
                      simp only [Bool.false_eq_true, if_false] at qq
                      have HCL := hide (srcFl 1 1 rfl HJ.out.i.src (H.out.ext HJ.out.i.ext) HNE.out (by have := (HPC.out k).2.2.2; rwa [HL.out] at this) (by omega))
                      have hq : (rdF b 1 (c4F b k).2).1 < 256 := rdF_lt _
                      obtain ⟨q, hqq⟩ : ∃ q, q = rdF b 1 (c4F b k).2 := ⟨_, rfl⟩
                      rw [← hqq] at hq HCL
                      have HQQ := hide hqq
                      clear hqq
                      obtain ⟨qv, qs⟩ := q
                      have hq : qv < 256 := hq
                      have HCL := hide (by have := HCL.out; exact this : Calls Try.prog 33 #[.pointer (some ⟨w.heap.size + 1, 0, none⟩), .int .u8 1] wr fun e w' => e = .returned (.int .u8 (qv : Int)) ∧ Blk w' (w.heap.size + 1) 69 (srcC A n c qs) ∧ Tw wr w' (w.heap.size + 1) none)
                      have HSV : Hid ((c4F b (k + 1)).1 = (c4F b k).1 ++ [((qv : Int) == 1)]) := hide (by
                        show (keyF b (fstK b) (k + 1) (c3F b (nF b)).2).1 = _
                        rw [keyF, if_neg (by rw [hfl]; simp)]
                        show _ ++ [decide ((rdF b 1 (c4F b k).2).1 = 1)] = _
                        rw [← HQQ.out, show ((qv : Int) == 1) = decide (qv = 1) by rw [Bool.eq_iff_iff]; simp; omega]; rfl)
                      have HSS : Hid ((c4F b (k + 1)).2 = qs) := hide (by show (keyF b (fstK b) (k + 1) (c3F b (nF b)).2).2 = _; rw [keyF, if_neg (by rw [hfl]; simp)]; show (rdF b 1 (c4F b k).2).2 = _; rw [← HQQ.out])
                      clear hfl
                      go_wp2_with fail
                      with_reducible refine HCL.out.mono ?_
                      rintro e w8 ⟨rfl, b8, t8⟩
                      have J8 := hide (HJ.out.call b8 t8)
                      have z8 : w8.frozen? ⟨gl, k * 5 + 4, none⟩ = false := J8.out.row.frozenF _
                      have y8 := J8.out.cell hlt 4 _ rfl
                      clear b8 t8
                      go_wp2_with fail
                      exact ⟨⟨k + 1, by omega, by go_num, hide (by rw [HSS.out, HSV.out, ← mkSm_key _ hlt HLK.out]; exact J8.out.set_ k 4 hlt (by omega) _ _ rfl)⟩, by simp [intOf]; omega⟩
                  · obtain rfl : k = nF b := by omega
                    have i0 : ¬ (nF b : Int) < (nF b : Int) := by omega
                    have JN := hide HJ.out
                    clear HJ hk hlt
                    have HEN := hide (srcEnd_any JN.out.i.src (H.out.ext JN.out.i.ext))
                    have HE5 : Hid (rdE b (c4F b (nF b)).2 = endF b) := hide rfl
                    rw [HE5.out] at HEN
                    go_wp2_with fail
                    clear hp1 hp2 hp3 hp4 hv1 hv3 hv4 HTF W4 W2 hnum0 HI0 Q1 Q2 Q4 Q8 HPC hm15
                    with_reducible refine HEN.out.mono ?_
                    rintro e w8 ⟨rfl, b8, t8⟩
                    have J8 := hide (JN.out.call b8 t8)
                    clear b8 t8 HEN JN
                    obtain ⟨ed, hed⟩ : ∃ ed, ed = endF b := ⟨_, rfl⟩
                    rw [← hed] at J8 ⊢
                    have HED := hide hed.symm
                    clear HE5 hed
                    obtain ⟨ps, bd⟩ := ed
                    have s1 : w8.cell? ⟨w.heap.size + 1, 1, none⟩ = some (.int .i64 (ps : Int)) := J8.out.i.src.cell 1
                    cases bd with
                    | true =>
                      have HR := hide (rf_bad HED.out)
                      go_wp2_with fail
                      have I7 := hide J8.out.i
                      have z0 := I7.out.res.frozen 0
                      have z1 := I7.out.res.frozen 1
                      have y0 : w8.cell? ⟨w.heap.size, 0, none⟩ = some (.int .i64 0) := I7.out.res.cell 0
                      have y1 : w8.cell? ⟨w.heap.size, 1, none⟩ = some (.slice none 0 0) := I7.out.res.cell 1
                      rename_i qK0 qa0
                      have QA0 := hide qa0
                      clear qa0
                      go_region
                      refine QA0.out _ _ (wp_ret ?_)
                      change bodyPost Try.prog Try.f10 (RfGives w b) Exit.ret _ _
                      refine gen_bod fun wz hz9 => ?_
                      have Ez : Hid (Ext w wz) := hide (by rw [hz9]; exact tw_ext I7.out.ext (((Tw.set_ _ _ _ _ _).trans (Tw.set_ _ _ _ _ _)).drew) (Nat.le_refl _))
                      have Rz : Hid (Blk wz w.heap.size 25 #[.int .i64 0, .slice none 0 0]) := hide (by rw [hz9]; exact ((I7.out.res.set_ 0 _).set_ 1 _).drew)
                      have k0 : wz.cell? ⟨w.heap.size, 0, none⟩ = some (.int .i64 0) := Rz.out.cell 0
                      have k1 : wz.cell? ⟨w.heap.size, 1, none⟩ = some (.slice none 0 0) := Rz.out.cell 1
                      refine bodyPost_ret (v := .tuple #[.agg #[.int .i64 0, .slice none 0 0], .int .i64 (ps : Int), .int .i64 10]) (by simp [results, Try.results10, go_sem, k0, k1]) rfl (RfGives.no HR.out.1 HR.out.2 (by omega) Ez.out)
                    | false =>
                      clear s1
                      by_cases ht0 : nF b = 0 ∧ tF b ≠ 0
                      · have HR := hide (rf_time HED.out ht0)
                        have d0 : ((nF b : Int) == 0) = true := by rw [beq_iff_eq]; omega
                        have d1 : (tF b != 0) = true := by simp [ht0.2]
                        have I7 := hide J8.out.i
                        have z0 := I7.out.res.frozen 0
                        have z1 := I7.out.res.frozen 1
                        have y0 : w8.cell? ⟨w.heap.size, 0, none⟩ = some (.int .i64 0) := I7.out.res.cell 0
                        have y1 : w8.cell? ⟨w.heap.size, 1, none⟩ = some (.slice none 0 0) := I7.out.res.cell 1
                        clear ht0
                        go_upto_region 39 with (fail)
                        rename_i qK0 qa0
                        have QA0 := hide qa0
                        clear qa0
                        go_wp2_with fail
                        refine QA0.out _ _ (wp_ret ?_)
                        change bodyPost Try.prog Try.f10 (RfGives w b) Exit.ret _ _
                        refine gen_bod fun wz hz9 => ?_
                        have Ez : Hid (Ext w wz) := hide (by rw [hz9]; exact tw_ext I7.out.ext ((Tw.set_ _ _ _ _ _).trans (Tw.set_ _ _ _ _ _)) (Nat.le_refl _))
                        have Rz : Hid (Blk wz w.heap.size 25 #[.int .i64 0, .slice none 0 0]) := hide (by rw [hz9]; exact (I7.out.res.set_ 0 _).set_ 1 _)
                        have k0 : wz.cell? ⟨w.heap.size, 0, none⟩ = some (.int .i64 0) := Rz.out.cell 0
                        have k1 : wz.cell? ⟨w.heap.size, 1, none⟩ = some (.slice none 0 0) := Rz.out.cell 1
                        refine bodyPost_ret (v := .tuple #[.agg #[.int .i64 0, .slice none 0 0], .int .i64 4, .int .i64 3]) (by simp [results, Try.results10, go_sem, k0, k1]) rfl (RfGives.no HR.out.1 HR.out.2 (by omega) Ez.out)
                      have HKM := hide (keyMarks_any (J8.out.row.atS len_eSm))
                      have HKM2 : Hid (mkN (mkSm (nF b) (fun _ => 0) (c1F b (nF b)).1 (c2F b (nF b)).1 (c3F b (nF b)).1 (c4F b (nF b)).1) = mkN (smF b)) := hide mkN_times
                      rw [HKM2.out] at HKM
                      have HKL := hide (mkN_lt (smF b))
                      generalize hmks : mkN (smF b) = mks at *
                      have hk16 := HKL.out
                      have HNO := hide ht0
                      have HMKS := hide hmks
                      clear hmks HKM2
                      have dd : ((nF b : Int) == 0) = false ∨ (((nF b : Int) == 0) = true ∧ (tF b != 0) = false) := by
                        by_cases h1 : nF b = 0
                        · right
                          have : tF b = 0 := Classical.byContradiction fun hc => ht0 ⟨h1, hc⟩
                          exact ⟨by rw [beq_iff_eq]; omega, by simp [this]⟩
                        · left; rw [beq_eq_false_iff_ne]; omega
                      clear ht0
                      go_upto_region 38 with (fail)
                      go_cut [146] (fun s146 wx => s146 = .bool false ∧ wx = w8)
                      case first =>
                        rcases dd with dd | ⟨dd, de⟩
                        all_goals
                          go_wp2_with fail
                          go_meet
                          exact ⟨by first | rfl | simp, rfl⟩
                      case rest =>
                      obtain ⟨rfl, rfl⟩ := hcut
                      clear dd
                      go_wp2_with fail
                      with_reducible refine HKM.out.mono ?_
                      rintro e w9 ⟨rfl, e9⟩
                      have J9 := hide (J8.out.more e9)
                      clear e9 J8 HKM
                      by_cases hmn : m = mks
                      case neg =>
                        have HR := hide (rf_mark HED.out HNO.out (by rw [HMM.out, HMKS.out]; exact hmn))
                        have d0 : ((m : Int) != (mks : Int)) = true := by rw [bne_iff_ne]; omega
                        have I7 := hide J9.out.i
                        have z0 := I7.out.res.frozen 0
                        have z1 := I7.out.res.frozen 1
                        have y0 : w9.cell? ⟨w.heap.size, 0, none⟩ = some (.int .i64 0) := I7.out.res.cell 0
                        have y1 : w9.cell? ⟨w.heap.size, 1, none⟩ = some (.slice none 0 0) := I7.out.res.cell 1
                        clear hmn
                        go_upto_region 41 with (fail)
                        rename_i qK0 qa0
                        have QA0 := hide qa0
                        clear qa0
                        go_wp2_with fail
                        refine QA0.out _ _ (wp_ret ?_)
                        change bodyPost Try.prog Try.f10 (RfGives w b) Exit.ret _ _
                        refine gen_bod fun wz hz9 => ?_
                        have Ez : Hid (Ext w wz) := hide (by rw [hz9]; exact tw_ext I7.out.ext ((Tw.set_ _ _ _ _ _).trans (Tw.set_ _ _ _ _ _)) (Nat.le_refl _))
                        have Rz : Hid (Blk wz w.heap.size 25 #[.int .i64 0, .slice none 0 0]) := hide (by rw [hz9]; exact (I7.out.res.set_ 0 _).set_ 1 _)
                        have k0 : wz.cell? ⟨w.heap.size, 0, none⟩ = some (.int .i64 0) := Rz.out.cell 0
                        have k1 : wz.cell? ⟨w.heap.size, 1, none⟩ = some (.slice none 0 0) := Rz.out.cell 1
                        refine bodyPost_ret (v := .tuple #[.agg #[.int .i64 0, .slice none 0 0], .int .i64 14, .int .i64 3]) (by simp [results, Try.results10, go_sem, k0, k1]) rfl (RfGives.no HR.out.1 HR.out.2 (by omega) Ez.out)
                      case pos =>
                      have HRO := rf_ok HED.out HNO.out (by rw [HMM.out, HMKS.out]; exact hmn)
                      have HRA3 := hide HRO.1
                      have HRB3 := hide HRO.2
                      have d0 : ((m : Int) != (mks : Int)) = false := by rw [bne_eq_false_iff_eq]; omega
                      clear HRO hmn
                      have HT0 : Hid (mkSm (nF b) (fun _ => 0) (c1F b (nF b)).1 (c2F b (nF b)).1 (c3F b (nF b)).1 (c4F b (nF b)).1 = mkSm (nF b) (upT 0 (tmF (tF b) (c1F b (nF b)).1)) (c1F b (nF b)).1 (c2F b (nF b)).1 (c3F b (nF b)).1 (c4F b (nF b)).1) := hide (mkSm_congr fun i _ => by unfold upT; simp)
                      rw [HT0.out] at J9
                      have HTN : Hid (mkSm (nF b) (upT (nF b) (tmF (tF b) (c1F b (nF b)).1)) (c1F b (nF b)).1 (c2F b (nF b)).1 (c3F b (nF b)).1 (c4F b (nF b)).1 = smF b) := hide (mkSm_congr fun i hi => by unfold upT; rw [if_pos hi])
                      go_wp2_with fail
                      go_loopw [7, 162] (fun r7 ri wr => ∃ k : Nat, k ≤ nF b ∧ ri = .int .i64 k ∧ r7 = .int .i64 (tmF (tF b) (c1F b (nF b)).1 k) ∧ Hid (RfJ w wr A n c gf gl (nF b) ((h1F b).1 : Int) ⟨ps, false⟩ (mkSm (nF b) (upT k (tmF (tF b) (c1F b (nF b)).1)) (c1F b (nF b)).1 (c2F b (nF b)).1 (c3F b (nF b)).1 (c4F b (nF b)).1))) (fun _ ri _ => nF b - (intOf ri).toNat)
                      case atStart => exact ⟨0, by omega, rfl, rfl, J9⟩
                      case round =>
                        obtain ⟨k, hk, rfl, rfl, HJ⟩ := hrel
                        by_cases hlt : k < nF b
                        · have i0 : (k : Int) < (nF b : Int) := by omega
                          have i9 : (0 : Int) ≤ (k : Int) := by omega
                          have i8 : IntKind.i64.wrap ((k : Int) + 1) = (k : Int) + 1 := by rw [IntKind.wrap_i64]; omega
                          have z8 : wr.frozen? ⟨gl, k * 5, none⟩ = false := HJ.out.row.frozenF _
                          have y8 := HJ.out.cell hlt 0 _ rfl
                          rw [Nat.add_zero] at y8
                          have y9a := HJ.out.cell hlt 1 _ rfl
                          rw [mkSm_get hlt] at y9a
                          have y9 : wr.cell? ⟨gl, k * 5 + 1, none⟩ = some (.int .i64 (((c1F b (nF b)).1.getD k 0 : Nat) : Int)) := y9a
                          clear y9a
                          have HTS : Hid (tmF (tF b) (c1F b (nF b)).1 (k + 1) = IntKind.i64.wrap (tmF (tF b) (c1F b (nF b)).1 k + (((c1F b (nF b)).1.getD k 0 : Nat) : Int))) := hide rfl
                          have HJS := hide (HJ.out.set_ k 0 hlt (by omega) { (mkSm (nF b) (upT k (tmF (tF b) (c1F b (nF b)).1)) (c1F b (nF b)).1 (c2F b (nF b)).1 (c3F b (nF b)).1 (c4F b (nF b)).1).getD k dS with time := tmF (tF b) (c1F b (nF b)).1 k } (.int .i64 (tmF (tF b) (c1F b (nF b)).1 k)) rfl)
                          rw [mkSm_time hlt, Nat.add_zero] at HJS
                          generalize tmF (tF b) (c1F b (nF b)).1 k = tk at *
                          generalize (c1F b (nF b)).1.getD k 0 = sk at *
                          go_wp2_with fail
                          exact ⟨⟨k + 1, by omega, by go_num, by rw [HTS.out]; first | rfl | exact int_val (by rw [IntKind.wrap_i64]; rfl) | exact int_val (by rw [IntKind.wrap_i64]; unfold wrap64; rfl) | exact int_val (wrap64_eq _), HJS⟩, by simp [intOf]; omega⟩
                        · obtain rfl : k = nF b := by omega
                          have i0 : ¬ (nF b : Int) < (nF b : Int) := by omega
                          rw [HTN.out] at HJ
                          have HCS := hide (keySamples_any (HJ.out.row.atS len_eSm))
                          obtain ⟨fx, hfx⟩ : ∃ fx, fx = smpF (smF b) := ⟨_, rfl⟩
                          rw [← hfx] at HCS HRA3
                          clear hfx hk hlt
                          go_wp2_with fail
                          with_reducible refine HCS.out.mono ?_
                          rintro e wa ⟨rfl, ea⟩
                          have JA := hide (HJ.out.more ea)
                          clear ea HJ HCS
                          have I7 := hide JA.out.i
                          have z0 := I7.out.res.frozen 0
                          have z1 := I7.out.res.frozen 1
                          have y0 : wa.cell? ⟨w.heap.size, 0, none⟩ = some (.int .i64 0) := I7.out.res.cell 0
                          have y1 : wa.cell? ⟨w.heap.size, 1, none⟩ = some (.slice none 0 0) := I7.out.res.cell 1
                          by_cases hz : fx = 0
                          case neg =>
                            have HR : Hid (rfF b = fx ∧ rfA b = 0 ∧ fx ≠ 0) := hide ⟨HRA3.out, HRB3.out, hz⟩
                            have d9 : (fx != 0) = true := by simp [hz]
                            clear hz
                            go_upto_region 50 with (fail)
                            rename_i qK0 qa0
                            have QA0 := hide qa0
                            clear qa0
                            go_wp2_with fail
                            refine QA0.out _ _ (wp_ret ?_)
                            change bodyPost Try.prog Try.f10 (RfGives w b) Exit.ret _ _
                            refine gen_bod fun wz hz9 => ?_
                            have Ez : Hid (Ext w wz) := hide (by rw [hz9]; exact tw_ext I7.out.ext ((Tw.set_ _ _ _ _ _).trans (Tw.set_ _ _ _ _ _)) (Nat.le_refl _))
                            have Rz : Hid (Blk wz w.heap.size 25 #[.int .i64 0, .slice none 0 0]) := hide (by rw [hz9]; exact (I7.out.res.set_ 0 _).set_ 1 _)
                            have k0 : wz.cell? ⟨w.heap.size, 0, none⟩ = some (.int .i64 0) := Rz.out.cell 0
                            have k1 : wz.cell? ⟨w.heap.size, 1, none⟩ = some (.slice none 0 0) := Rz.out.cell 1
                            refine bodyPost_ret (v := .tuple #[.agg #[.int .i64 0, .slice none 0 0], .int .i64 0, .int .i64 fx]) (by simp [results, Try.results10, go_sem, k0, k1]) rfl (RfGives.no HR.out.1 HR.out.2.1 HR.out.2.2 Ez.out)
                          case pos =>
                            subst hz
                            have HR : Hid (rfF b = 0 ∧ rfA b = 0) := hide ⟨HRA3.out, HRB3.out⟩
                            have hgl := JA.out.gl
                            have hgf := JA.out.hgf
                            have f0 : wa.cell? ⟨gf, 0, none⟩ = some (.int .i64 ((h1F b).1 : Int)) := JA.out.fb.cell 0
                            have f1 : wa.cell? ⟨gf, 1, none⟩ = some (.slice none 0 0) := JA.out.fb.cell 1
                            have g1 : wa.frozen? ⟨gf, 1, none⟩ = false := JA.out.fb.frozen 1
                            go_upto_region 52 with (fail)
                            refine gen_wpC fun wb hb => ?_
                            have FBb : Hid (Blk wb gf 25 #[.int .i64 ((h1F b).1 : Int), .slice (some ⟨gl, 0, none⟩) (nF b) (nF b)]) := hide (by rw [hb]; exact JA.out.fb.set_ 1 _)
                            have Rb : Hid (Blk wb w.heap.size 25 #[.int .i64 0, .slice none 0 0]) := hide (by rw [hb]; exact JA.out.i.res.far (by simp; omega) _)
                            have Eb : Hid (Ext w wb) := hide (by rw [hb]; exact tw_ext JA.out.i.ext (Tw.set_ _ _ _ _ _) (by omega))
                            have Ob : Hid (Own wb (gf + 1) 31 5 eSm (.slice (some ⟨gl, 0, none⟩) (nF b) (nF b)) (smF b)) := hide (by rw [hb]; exact JA.out.row.tw (Tw.set_ _ gf 1 _ none) (fun e => by have e2 : gl = _ := Option.some.inj e; omega) (fun g _ e => by cases e))
                            clear hb f0 f1 g1 z0 z1 y0 y1
                            have f0 : wb.cell? ⟨gf, 0, none⟩ = some (.int .i64 ((h1F b).1 : Int)) := FBb.out.cell 0
                            have f1 : wb.cell? ⟨gf, 1, none⟩ = some (.slice (some ⟨gl, 0, none⟩) (nF b) (nF b)) := FBb.out.cell 1
                            have z0 := Rb.out.frozen 0
                            have z1 := Rb.out.frozen 1
                            have y0 : wb.cell? ⟨w.heap.size, 0, none⟩ = some (.int .i64 0) := Rb.out.cell 0
                            have y1 : wb.cell? ⟨w.heap.size, 1, none⟩ = some (.slice none 0 0) := Rb.out.cell 1
                            rename_i qK0 qa0
                            have QA0 := hide qa0
                            clear qa0
                            go_wp2_with fail
                            refine QA0.out _ _ (wp_ret ?_)
                            change bodyPost Try.prog Try.f10 (RfGives w b) Exit.ret _ _
                            refine gen_bod fun wd hd => ?_
                            have Ed : Hid (Ext w wd) := hide (by rw [hd]; exact tw_ext Eb.out ((Tw.set_ _ _ _ _ _).trans (Tw.set_ _ _ _ _ _)) (Nat.le_refl _))
                            have Rd_ : Hid (Blk wd w.heap.size 25 #[.int .i64 ((h1F b).1 : Int), .slice (some ⟨gl, 0, none⟩) (nF b) (nF b)]) := hide (by rw [hd]; exact (Rb.out.set_ 0 _).set_ 1 _)
                            have Od : Hid (At wd 5 eSm (some ⟨gl, 0, none⟩) (nF b) (nF b) (smF b)) := hide (by rw [hd]; exact (Ob.out.tw ((Tw.set_ _ w.heap.size 0 _ none).trans (Tw.set_ _ _ 1 _ _)) (fun e => by have e2 : gl = _ := Option.some.inj e; omega) (fun g _ e => by cases e)).atS len_eSm)
                            have k0 : wd.cell? ⟨w.heap.size, 0, none⟩ = some (.int .i64 ((h1F b).1 : Int)) := Rd_.out.cell 0
                            have k1 : wd.cell? ⟨w.heap.size, 1, none⟩ = some (.slice (some ⟨gl, 0, none⟩) (nF b) (nF b)) := Rd_.out.cell 1
                            refine bodyPost_ret (v := .tuple #[.agg #[.int .i64 ((h1F b).1 : Int), .slice (some ⟨gl, 0, none⟩) (nF b) (nF b)], .int .i64 0, .int .i64 0]) (by simp [results, Try.results10, go_sem, k0, k1]) rfl ⟨Ed.out, some ⟨gl, 0, none⟩, nF b, nF b, ?_, ?_⟩
                            · unfold rfN; rw [HR.out.1, HR.out.2, if_pos rfl]
                            · unfold rfL; rw [HR.out.1, if_pos rfl]; exact Od.out
end Go.Proofs.Ytccmbokodifdoaa
