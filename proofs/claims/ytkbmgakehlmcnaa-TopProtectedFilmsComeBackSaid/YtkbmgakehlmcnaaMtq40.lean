/- Several texts in one: Boxes of a film in memory, more. No condition; Boxes in plain words: what is wrong with them, how many bytes they have, and their bytes. Plain; Boxes in plain words: what is read is written as it was, and what is written is read as it was. Plain; Walk: sizeOf (program). Conditions as stated; Films as bytes, in plain words. Plain but for the words of tracks. -/
import Derived.Test.YtkbmgakehlmcnaaMtq39
import Derived.Test.YtkbmgakehlmcnaaMtq17
import Derived.Test.YtkbmgakehlmcnaaMtq16
namespace Go.Proofs.Ytkbmgakehlmcnaa
open Go.RowKit
theorem gen_hk {P : Act → World → Prop} {S : World → Prop} {c : Bool} {K : Act → World → Prop} {a : Act} {w : World} (hK : Shut (∀ a' w', (c = false → S w') → P a' w' → K a' w')) (h : ∀ W, W = w → (c = false → S W) ∧ P a W) : K a w :=
  hK.out _ _ (h w rfl).1 (h w rfl).2
def nmS (l : List TrkT) : Prop := ∀ i, i < l.length → (l.getD i default).name.length ≤ 40
structure FbM (w0 W : World) (xb : Nat) (v : Value) (hs : List BoxH) (l : List BoxT) : Prop where
  row : RwO W w0.heap.size xb v hs l
  cell : Blk W xb 66 #[.string ⟨kFilm.toArray⟩, .int .i64 0, .slice none 0 0, v]
  lo : w0.heap.size ≤ xb
  ext : Ext w0 W
theorem FbM.extW {w0 W W' : World} {xb : Nat} {v : Value} {hs : List BoxH} {l : List BoxT} (h : FbM w0 W xb v hs l) (he : Ext W W') : FbM w0 W' xb v hs l := ⟨h.row.ext he, h.cell.ext he, h.lo, Ext.trans h.ext he⟩
theorem FbM.mid {w0 W Wa W' : World} {xb : Nat} {v : Value} {hs : List BoxH} {l : List BoxT} (h : FbM w0 W xb v hs l) (he : Ext W Wa) (hg : Wa.grownBy W' v.ownBlock) : Blk W' xb 66 #[.string ⟨kFilm.toArray⟩, .int .i64 0, .slice none 0 0, v] :=
  (hg.block xb (h.cell.ext he).lt (fun e => h.row.ne e.symm)).trans (h.cell.ext he)
theorem FbM.snoc {w0 W Wa W' : World} {xb : Nat} {v v' : Value} {hs : List BoxH} {l : List BoxT} {y : BoxH} {x : BoxT} (h : FbM w0 W xb v hs l) (he : Ext W Wa) (hy : BxOk Wa (G1 W.heap.size Wa) y x)
    (hw : Own W' w0.heap.size 66 4 eBx v' (hs ++ [y])) (hg : Wa.grownBy W' v.ownBlock) (hr : v'.ownBlock = v.ownBlock ∨ v'.ownBlock = some Wa.heap.size) : FbM w0 (W'.setCell ⟨xb, 3, none⟩ v') xb v' (hs ++ [y]) (l ++ [x]) := by
  have h1 := h.row.snoc h.ext.size h.cell.lt he hy hw hg hr
  have hT : Tw W' (W'.setCell ⟨xb, 3, none⟩ v') xb none := Tw.set_ _ _ _ _ _
  have e1 : Ext w0 W' := h.row.own.ext he |>.below (Ext.trans h.ext he) hg (Nat.le_refl _)
  exact ⟨h1.set_, (h.mid he hg).set_ 3 v', h.lo, tw_ext' e1 hT h.lo⟩
def FbG (w : World) (l : List BoxT) (e : Ending) (w' : World) : Prop := ∃ kA kn kc, e = .returned (.agg #[.string ⟨kFilm.toArray⟩, .int .i64 0, .slice none 0 0, .slice kA kn kc]) ∧ BxsAt w' (G1 w.heap.size w') kA kn kc l ∧ Ext w w'
theorem BtP.low {W : World} {B B' : Nat} {A : Option Addr} {n c : Nat} {l : List UInt8} (h : BtP W B A n c l) (hb : B' ≤ B) : BtP W B' A n c l := ⟨h.at_, fun a ha => ⟨Nat.le_trans hb (h.in_ a ha).1, (h.in_ a ha).2⟩⟩
theorem cmp_fw {W : World} {sA : Option Addr} {sn sc : Nat} {hA : Option Addr} {hn hc : Nat} {zA : Option Addr} {zn zc : Nat} {kA : Option Addr} {kn kc : Nat} {cA : Option Addr} {cn cc : Nat} {pA : Option Addr} {pn pc : Nat} {l : List Smp} {ch pl : List Int}
    (h : TabAt W sA sn sc hA hn hc zA zn zc kA kn kc cA cn cc pA pn pc (cmpT l ch pl)) (hl : l.length ≤ 5000) (hch : ch.length ≤ 5000) (hp : pl.length ≤ 5000) : TabFw sn hn zn kn cn pn := by
  have h1 := h.steps.len
  have h2 := h.shifts.len
  have h3 := h.sizes.len
  have h4 := h.keys.len
  have h5 := h.chunks.len
  have h6 := h.places.len
  unfold cmpT at h1 h2 h3 h4 h5 h6
  simp only at h1 h2 h3 h4 h5 h6
  have a1 := (rowK_bd Smp.step l l.length).1
  have a2 := (rowK_bd Smp.shift l l.length).1
  have a3 := szK_len l l.length
  have a4 := keyK_len l l.length
  have a5 := chK_len ch ch.length
  refine ⟨by omega, by omega, ?_, ?_, by omega, by omega⟩
  · rw [← h3]; split
    · rw [List.length_take]; omega
    · omega
  · rw [← h4]; split
    · simp
    · omega
def FbS (xb tb gp i : Nat) (v u0 u1 u2 u3 u4 : Value) (V : World) : Prop := V.cell? ⟨xb, 3, none⟩ = some v ∧ V.cell? ⟨tb, 0, none⟩ = some u0 ∧ V.cell? ⟨tb, 1, none⟩ = some u1 ∧ V.cell? ⟨tb, 2, none⟩ = some u2 ∧ V.cell? ⟨tb, 3, none⟩ = some u3 ∧ V.cell? ⟨gp, i, none⟩ = some u4
theorem FbS.ext {xb tb gp i : Nat} {v u0 u1 u2 u3 u4 : Value} {W V : World} (h : FbS xb tb gp i v u0 u1 u2 u3 u4 W) (he : Ext W V) : FbS xb tb gp i v u0 u1 u2 u3 u4 V := ⟨he.cell h.1, he.cell h.2.1, he.cell h.2.2.1, he.cell h.2.2.2.1, he.cell h.2.2.2.2.1, he.cell h.2.2.2.2.2⟩
theorem FbS.grow {xb tb gp i : Nat} {v u0 u1 u2 u3 u4 : Value} {W V : World} {row : Option Nat} (h : FbS xb tb gp i v u0 u1 u2 u3 u4 W) (hg : W.grownBy V row) (h1 : row ≠ some xb) (h2 : row ≠ some tb) (h3 : row ≠ some gp) : FbS xb tb gp i v u0 u1 u2 u3 u4 V := by
  have key : ∀ (q k : Nat) (u : Value), row ≠ some q → W.cell? ⟨q, k, none⟩ = some u → V.cell? ⟨q, k, none⟩ = some u := fun q k u hq hc => cell_heap (hg.block q (by have := cell_lt hc; simpa using this) (fun e => hq e.symm)) hc
  exact ⟨key _ _ _ h1 h.1, key _ _ _ h2 h.2.1, key _ _ _ h2 h.2.2.1, key _ _ _ h2 h.2.2.2.1, key _ _ _ h2 h.2.2.2.2.1, key _ _ _ h3 h.2.2.2.2.2⟩
theorem four_bxs {W : World} {B : Nat} {A1 A2 A3 A4 : Option Addr} {n1 c1 n2 c2 n3 c3 n4 c4 : Nat} {d1 d2 d3 d4 : List UInt8} (hb : B ≤ W.heap.size) (h1 : BtP W B A1 n1 c1 d1) (h2 : BtP W B A2 n2 c2 d2) (h3 : BtP W B A3 n3 c3 d3) (h4 : BtP W B A4 n4 c4 d4) :
    BxOk (W.alloc (.cells #[.string ⟨#[110, 97, 109, 101]⟩, .int .i64 0, .slice A1 n1 c1, .slice none 0 0, .string ⟨#[114, 97, 116, 101]⟩, .int .i64 0, .slice A2 n2 c2, .slice none 0 0, .string ⟨#[101, 100, 105, 116]⟩, .int .i64 0, .slice A3 n3 c3, .slice none 0 0, .string ⟨#[116, 97, 98, 108]⟩, .int .i64 0, .slice A4 n4 c4, .slice none 0 0] 66))
      (G1 B (W.alloc (.cells #[.string ⟨#[110, 97, 109, 101]⟩, .int .i64 0, .slice A1 n1 c1, .slice none 0 0, .string ⟨#[114, 97, 116, 101]⟩, .int .i64 0, .slice A2 n2 c2, .slice none 0 0, .string ⟨#[101, 100, 105, 116]⟩, .int .i64 0, .slice A3 n3 c3, .slice none 0 0, .string ⟨#[116, 97, 98, 108]⟩, .int .i64 0, .slice A4 n4 c4, .slice none 0 0] 66)))
      ⟨kTrck, 0, none, 0, 0, some ⟨W.heap.size, 0, none⟩, 4, 4⟩ (.mk kTrck 0 [] [leafB kName d1, leafB kRate d2, leafB kEdit d3, leafB kTabl d4]) := by
  have h9 := lit_bxs (W := W) (B := B) #[.string ⟨#[110, 97, 109, 101]⟩, .int .i64 0, .slice A1 n1 c1, .slice none 0 0, .string ⟨#[114, 97, 116, 101]⟩, .int .i64 0, .slice A2 n2 c2, .slice none 0 0, .string ⟨#[101, 100, 105, 116]⟩, .int .i64 0, .slice A3 n3 c3, .slice none 0 0, .string ⟨#[116, 97, 98, 108]⟩, .int .i64 0, .slice A4 n4 c4, .slice none 0 0] [hdB kName A1 n1 c1, hdB kRate A2 n2 c2, hdB kEdit A3 n3 c3, hdB kTabl A4 n4 c4] [leafB kName d1, leafB kRate d2, leafB kEdit d3, leafB kTabl d4] rfl hb rfl (by simp) (fun i y x hy hx => by
    match i, hy, hx with
    | 0, hy, hx => simp at hy hx; subst hy hx; exact h1.leaf
    | 1, hy, hx => simp at hy hx; subst hy hx; exact h2.leaf
    | 2, hy, hx => simp at hy hx; subst hy hx; exact h3.leaf
    | 3, hy, hx => simp at hy hx; subst hy hx; exact h4.leaf
    | i + 4, hy, hx => simp at hy)
  exact ⟨⟨rfl, rfl, At.nil _ _ _, fun a ha => by cases ha⟩, h9⟩
structure EdM (w5 W : World) (v : Value) (l : List UInt8) : Prop where
  own : Own W w5.heap.size 5 1 e8 v l
  ext : Ext w5 W
end Go.Proofs.Ytkbmgakehlmcnaa
namespace Go.Proofs.Ytkbmgakehlmcnaa
mutual
def sizeT : BoxT → Nat
  | .mk _ f d l => 8 + d.length + (if f = 1 then 8 else 0) + sizeL l
def sizeL : List BoxT → Nat
  | [] => 0
  | x :: r => sizeT x + sizeL r
end
def firstN (f : Int) (n : Nat) : Nat := if f = 1 then 1 else if f = 2 then 0 else n
def headB (k : List UInt8) (f : Int) (n : Nat) : List UInt8 := beN 4 (firstN f n) ++ k ++ (if f = 1 then beN 8 n else [])
mutual
def bytT : BoxT → List UInt8
  | .mk k f d l => headB k f (8 + d.length + (if f = 1 then 8 else 0) + sizeL l) ++ d ++ bytL l
def bytL : List BoxT → List UInt8
  | [] => []
  | x :: r => bytT x ++ bytL r
end
def elB (k : List UInt8) (f : Int) (d : List UInt8) (n : Nat) (last : Bool) : Int :=
  if isKindB k = false then 5 else if f < 0 ∨ 2 < f then 4 else if (hasKidsB k = true ∧ 0 < d.length) ∨ (hasKidsB k = false ∧ 0 < n) then 3 else if f = 2 ∧ last = false then 8 else 0
def fauL : List BoxT → Nat → Nat → Int × Nat
  | [], _, c => (0, c)
  | .mk k f d l :: r, dep, c =>
    if 2000 < c + 1 ∨ 8 ≤ dep then (2, c + 1)
    else if elB k f d l.length r.isEmpty ≠ 0 then (elB k f d l.length r.isEmpty, c + 1)
    else if (fauL l (dep + 1) (c + 1)).1 ≠ 0 then fauL l (dep + 1) (c + 1)
    else fauL r dep (fauL l (dep + 1) (c + 1)).2
theorem fauL_ok {k : List UInt8} {f : Int} {d : List UInt8} {l r : List BoxT} {dep c m : Nat} (h : fauL (.mk k f d l :: r) dep c = (0, m)) :
    ¬ (2000 < c + 1 ∨ 8 ≤ dep) ∧ elB k f d l.length r.isEmpty = 0 ∧ ∃ m', fauL l (dep + 1) (c + 1) = (0, m') ∧ fauL r dep m' = (0, m) := by
  rw [fauL] at h
  by_cases h1 : 2000 < c + 1 ∨ 8 ≤ dep
  · rw [if_pos h1] at h; injection h with h2; omega
  rw [if_neg h1] at h
  by_cases h2 : elB k f d l.length r.isEmpty ≠ 0
  · rw [if_pos h2] at h; injection h with h3; exact absurd h3 h2
  rw [if_neg h2] at h
  by_cases h3 : (fauL l (dep + 1) (c + 1)).1 ≠ 0
  · rw [if_pos h3] at h; rw [h] at h3; exact absurd rfl h3
  rw [if_neg h3] at h
  refine ⟨h1, by omega, (fauL l (dep + 1) (c + 1)).2, ?_, h⟩
  have : (fauL l (dep + 1) (c + 1)).1 = 0 := by omega
  rw [← this]
theorem elB_ok {k : List UInt8} {f : Int} {d : List UInt8} {n : Nat} {last : Bool} (h : elB k f d n last = 0) :
    isKindB k = true ∧ (f = 0 ∨ f = 1 ∨ f = 2) ∧ (hasKidsB k = true → d = []) ∧ (hasKidsB k = false → n = 0) ∧ (f = 2 → last = true) := by
  unfold elB at h
  cases hk : isKindB k with
  | false => rw [hk, if_pos rfl] at h; omega
  | true =>
    rw [hk, if_neg (by simp)] at h
    by_cases h1 : f < 0 ∨ 2 < f
    · rw [if_pos h1] at h; omega
    rw [if_neg h1] at h
    by_cases h2 : (hasKidsB k = true ∧ 0 < d.length) ∨ (hasKidsB k = false ∧ 0 < n)
    · rw [if_pos h2] at h; omega
    rw [if_neg h2] at h
    by_cases h3 : f = 2 ∧ last = false
    · rw [if_pos h3] at h; omega
    refine ⟨rfl, by omega, fun hh => ?_, fun hh => ?_, fun hf => ?_⟩
    · apply List.eq_nil_of_length_eq_zero
      rcases Nat.eq_zero_or_pos d.length with h4 | h4
      · exact h4
      · exact absurd (.inl ⟨hh, h4⟩) h2
    · rcases Nat.eq_zero_or_pos n with h4 | h4
      · exact h4
      · exact absurd (.inr ⟨hh, h4⟩) h2
    · cases last with
      | true => rfl
      | false => exact absurd ⟨hf, rfl⟩ h3
theorem kind_len {k : List UInt8} (h : isKindB k = true) : k.length = 4 := by
  unfold isKindB at h
  simp only [Bool.and_eq_true, decide_eq_true_iff] at h
  exact h.1
theorem headB_len {k : List UInt8} {f : Int} {n : Nat} (h : k.length = 4) : (headB k f n).length = 8 + (if f = 1 then 8 else 0) := by
  unfold headB
  rw [List.length_append, List.length_append, beN_len, h]
  by_cases hf : f = 1
  · rw [if_pos hf, if_pos hf, beN_len]
  · rw [if_neg hf, if_neg hf]; rfl
theorem bytL_len : ∀ (l : List BoxT) (dep c m : Nat), fauL l dep c = (0, m) → (bytL l).length = sizeL l
  | [], _, _, _, _ => by rw [bytL, sizeL]; rfl
  | .mk k f d l :: r, dep, c, m, h => by
    obtain ⟨_, h2, m', h3, h4⟩ := fauL_ok h
    have hk := kind_len (elB_ok h2).1
    have i1 := bytL_len l _ _ _ h3
    have i2 := bytL_len r _ _ _ h4
    rw [bytL, bytT, sizeL, sizeT, List.length_append, List.length_append, List.length_append, headB_len hk, i1, i2]
    omega
theorem cutB_ln {b : List UInt8} {i j : Nat} (h2 : j ≤ b.length) : (cutB b i j).length = j - i := by
  unfold cutB; rw [List.length_take, List.length_drop]; omega
theorem cutB_join {b : List UInt8} {i j k : Nat} (h1 : i ≤ j) (h2 : j ≤ k) : cutB b i j ++ cutB b j k = cutB b i k := by
  unfold cutB
  have e : b.drop j = (b.drop i).drop (j - i) := by rw [List.drop_drop]; congr 1; omega
  rw [e, show k - i = (j - i) + (k - j) by omega, List.take_add]
theorem cutB_split {b p q : List UInt8} {i k : Nat} (hi : i ≤ k) (hk : k ≤ b.length) (h : cutB b i k = p ++ q) : i + p.length ≤ k ∧ cutB b i (i + p.length) = p ∧ cutB b (i + p.length) k = q := by
  have hl := congrArg List.length h
  rw [cutB_ln hk, List.length_append] at hl
  have h1 : i + p.length ≤ k := by omega
  have e := cutB_join (b := b) (i := i) (j := i + p.length) (k := k) (by omega) h1
  rw [h] at e
  have h2 : (cutB b i (i + p.length)).length = p.length := by rw [cutB_ln (by omega)]; omega
  exact ⟨h1, (List.append_inj e h2).1, (List.append_inj e h2).2⟩
theorem headP_of {b k : List UInt8} {f : Int} {n i tt_ : Nat} (hk : isKindB k = true) (hf : f = 0 ∨ f = 1 ∨ f = 2) (hn : n < 4294967296) (hto : tt_ ≤ b.length) (hi : i + n ≤ tt_) (h8 : 8 + (if f = 1 then 8 else 0) ≤ n) (hopen : f = 2 → i + n = tt_)
    (hh : cutB b i (i + (8 + (if f = 1 then 8 else 0))) = headB k f n) : headP b i tt_ = some (k, f, i + (8 + (if f = 1 then 8 else 0)), i + n) := by
  have hkl := kind_len hk
  unfold headB at hh
  rw [List.append_assoc] at hh
  obtain ⟨g1, g2, g3⟩ := cutB_split (by omega) (by omega) hh
  rw [beN_len] at g1 g2 g3
  obtain ⟨g4, g5, g6⟩ := cutB_split (by omega) (by omega) g3
  rw [hkl] at g4 g5 g6
  rw [show i + 4 + 4 = i + 8 by omega] at g5 g6
  unfold headP
  have h1 : ¬ tt_ - i < 8 := by omega
  rw [if_neg h1, g2, g5]
  rcases hf with rfl | rfl | rfl
  · have e : numB (beN 4 (firstN 0 n)) = n := by
      rw [show firstN 0 n = n from rfl]; exact beN_numB 4 n (by simpa using hn)
    simp only [show ¬ ((0 : Int) = 1) by omega, if_false, Nat.add_zero] at h8 ⊢
    rw [e, if_neg (by omega), if_neg (by omega)]
    unfold headF
    rw [if_pos ⟨hk, by omega, by omega⟩]
  · have e : numB (beN 4 (firstN 1 n)) = 1 := by
      rw [show firstN 1 n = 1 from rfl]; exact beN_numB 4 1 (by omega)
    simp only [if_true] at h8 hh g6 ⊢
    rw [e, if_pos rfl, if_neg (by omega)]
    rw [show i + (8 + 8) = i + 16 by omega] at g6 ⊢
    rw [g6, beN_numB 8 n (by omega)]
    unfold headF
    rw [if_pos ⟨hk, by omega, by omega⟩]
  · have e : numB (beN 4 (firstN 2 n)) = 0 := by
      rw [show firstN 2 n = 0 from rfl]; exact beN_numB 4 0 (by omega)
    simp only [show ¬ ((2 : Int) = 1) by omega, if_false, Nat.add_zero] at h8 ⊢
    have ho := hopen rfl
    rw [e, if_neg (by omega), if_pos rfl]
    unfold headF
    rw [if_pos ⟨hk, by omega, by omega⟩]
    rw [show i + (tt_ - i) = i + n by omega]
theorem fauL_cons {k : List UInt8} {f : Int} {d : List UInt8} {l r : List BoxT} {dep c m m' : Nat} (h1 : ¬ (2000 < c + 1 ∨ 8 ≤ dep)) (h2 : elB k f d l.length r.isEmpty = 0) (h3 : fauL l (dep + 1) (c + 1) = (0, m')) (h4 : fauL r dep m' = (0, m)) :
    fauL (.mk k f d l :: r) dep c = (0, m) := by
  rw [fauL, if_neg h1, if_neg (by omega), h3, if_neg (by simp)]
  exact h4
theorem elB_of {k : List UInt8} {f : Int} {d : List UInt8} {n : Nat} {last : Bool} (h1 : isKindB k = true) (h2 : f = 0 ∨ f = 1 ∨ f = 2) (h3 : hasKidsB k = true → d = []) (h4 : hasKidsB k = false → n = 0) (h5 : f = 2 → last = true) : elB k f d n last = 0 := by
  unfold elB
  rw [h1, if_neg (by simp), if_neg (by omega), if_neg, if_neg]
  · rintro ⟨hf, hl⟩
    rw [h5 hf] at hl; cases hl
  · rintro (⟨a, b⟩ | ⟨a, b⟩)
    · rw [h3 a] at b; exact absurd b (Nat.lt_irrefl _)
    · rw [h4 a] at b; exact absurd b (Nat.lt_irrefl _)
theorem byt_parse {b : List UInt8} (hb : b.length < 4294967296) : ∀ (l : List BoxT) (f tt_ dep c m : Nat), fauL l dep c = (0, m) → f ≤ tt_ → tt_ ≤ b.length → cutB b f tt_ = bytL l → ∃ ns, parF b f tt_ dep c = .ok ns m ∧ boxesOf b ns = l
  | [], f, tt_, dep, c, m, hfl, hft, htb, hcut => by
    rw [fauL] at hfl
    injection hfl with _ h2
    subst h2
    have := congrArg List.length hcut
    rw [cutB_ln htb, bytL] at this
    refine ⟨[], parF_end (by simp at this; omega), by rw [boxesOf]⟩
  | .mk k fo d kl :: r, f, tt_, dep, c, m, hfl, hft, htb, hcut => by
    obtain ⟨h1, h2, m', h3, h4⟩ := fauL_ok hfl
    obtain ⟨e1, e2, e3, e4, e5⟩ := elB_ok h2
    have hl1 := bytL_len _ _ _ _ h3
    have hl2 := bytL_len _ _ _ _ h4
    have hk4 := kind_len e1
    rw [bytL, bytT] at hcut
    obtain ⟨N, hN⟩ : ∃ N, N = 8 + d.length + (if fo = 1 then 8 else 0) + sizeL kl := ⟨_, rfl⟩
    rw [← hN] at hcut
    obtain ⟨H, hH⟩ : ∃ H, H = 8 + (if fo = 1 then 8 else 0) := ⟨_, rfl⟩
    have hhl : (headB k fo N).length = H := by rw [headB_len hk4, hH]
    obtain ⟨p1, p2, p3⟩ := cutB_split hft htb hcut
    have hbl : (headB k fo N ++ d ++ bytL kl).length = N := by rw [List.length_append, List.length_append, hhl, hl1, hH, hN]; omega
    rw [hbl] at p1 p2 p3
    rw [List.append_assoc] at p2
    obtain ⟨q1, q2, q3⟩ := cutB_split (by omega) (by omega) p2
    rw [hhl] at q1 q2 q3
    have hHN : H ≤ N := by omega
    have h8 : 8 ≤ H := by omega
    have hop : fo = 2 → f + N = tt_ := fun h5 => by
      have h6 := e5 h5
      cases r with
      | cons x r => cases h6
      | nil =>
        rw [bytL] at p3
        have := congrArg List.length p3
        rw [cutB_ln htb] at this
        simp at this
        omega
    have hhd := headP_of (b := b) (k := k) (f := fo) (n := N) (i := f) (tt_ := tt_) e1 e2 (by omega) htb p1 (by rw [← hH]; exact hHN) hop (by rw [← hH]; exact q2)
    rw [← hH] at hhd
    obtain ⟨rs, hr1, hr2⟩ := byt_parse hb r (f + N) tt_ dep m' m h4 p1 htb p3
    cases hk : hasKidsB k with
    | true =>
      have hd := e3 hk
      subst hd
      rw [List.nil_append] at q3
      obtain ⟨ks, hk1, hk2⟩ := byt_parse hb kl (f + H) (f + N) (dep + 1) (c + 1) m' h3 (by omega) (by omega) q3
      refine ⟨[NodeT.mk k fo f (f + H) (f + N) ks] ++ rs, ?_, ?_⟩
      · rw [parF_kids (by omega) h1 hhd hk, hk1]
        show (parF b (f + N) tt_ dep m').pre _ = _
        rw [hr1]; rfl
      · show boxesOf b (NodeT.mk k fo f (f + H) (f + N) ks :: rs) = _
        rw [boxesOf, boxOf, if_pos hk, hk2, hr2]
    | false =>
      have hkl := List.eq_nil_of_length_eq_zero (e4 hk)
      subst hkl
      rw [fauL] at h3
      injection h3 with _ h3
      subst h3
      rw [bytL, List.append_nil] at q3
      refine ⟨[NodeT.mk k fo f (f + H) (f + N) []] ++ rs, ?_, ?_⟩
      · rw [parF_leaf (by omega) h1 hhd hk, hr1]; rfl
      · show boxesOf b (NodeT.mk k fo f (f + H) (f + N) [] :: rs) = _
        rw [boxesOf, boxOf, if_neg (by rw [hk]; simp), boxesOf, q3, hr2]
end Go.Proofs.Ytkbmgakehlmcnaa
namespace Go.Proofs.Ytkbmgakehlmcnaa
open Go.RowKit
theorem BxsAt.ext {w w' : World} {G : Nat → Prop} (he : Ext w w') {A : Option Addr} {n c : Nat} {l : List BoxT} (h : BxsAt w G A n c l) : BxsAt w' G A n c l := by
  induction h with
  | mk hs l h hg hl h1 _ ih => exact .mk hs l (h.ext he) hg hl (fun i y x hy hx => ⟨(h1 i y x hy hx).1, (h1 i y x hy hx).2.1, (h1 i y x hy hx).2.2.1.ext he, (h1 i y x hy hx).2.2.2⟩) ih
theorem BxHd.ext {w w' : World} {G : Nat → Prop} {y : BoxH} {x : BoxT} (he : Ext w w') (h : BxHd w G y x) : BxHd w' G y x := ⟨h.1, h.2.1, h.2.2.1.ext he, h.2.2.2⟩
theorem sizeT_eq (x : BoxT) : sizeT x = 8 + x.data.length + (if x.form = 1 then 8 else 0) + sizeL x.kids := by cases x; rw [sizeT]; rfl
theorem sizeL_app : ∀ (a b : List BoxT), sizeL (a ++ b) = sizeL a + sizeL b
  | [], b => by simp [sizeL]
  | x :: a, b => by rw [List.cons_append, sizeL, sizeL, sizeL_app a b]; omega
theorem sizeL_take {l : List BoxT} {k : Nat} (h : k < l.length) : sizeL (l.take (k + 1)) = sizeL (l.take k) + sizeT l[k] := by
  rw [List.take_succ_eq_append_getElem h, sizeL_app]; simp [sizeL]
theorem sizeL_le (l : List BoxT) (k : Nat) : sizeL (l.take k) ≤ sizeL l := by
  conv => rhs; rw [← List.take_append_drop k l, sizeL_app]
  omega
abbrev bxV (y : BoxH) (x : BoxT) : Value := .agg #[.string ⟨x.kind.toArray⟩, .int .i64 x.form, .slice y.dA y.dn y.dc, .slice y.kA y.kn y.kc]
def SizStmt (s : Nat) : Prop := ∀ {x : BoxT} {y : BoxH} {w : World} {G : Nat → Prop}, SizeOf.sizeOf x ≤ s → BxHd w G y x → BxsAt w G y.kA y.kn y.kc x.kids → sizeT x < 4611686018427387904 →
  Calls Try.prog 23 #[bxV y x] w fun e w' => e = .returned (.int .i64 (sizeT x : Int)) ∧ Ext w w'
set_option linter.unusedVariables false in
set_option maxRecDepth 100000 in
set_option maxHeartbeats 4000000 in
theorem size_step (s : Nat) (ih : ∀ s', s' < s → SizStmt s') : SizStmt s := by
  intro x y w G hs hh hk hb
  show Calls Try.prog 23 #[.agg #[.string ⟨x.kind.toArray⟩, .int .i64 x.form, .slice y.dA y.dn y.dc, .slice y.kA y.kn y.kc]] w _
  have hd := hh.2.2.1.len
  have hkl := hk.len
  obtain ⟨ys, ha, hy, hh1, hk1⟩ := hk.parts
  have HA := hide ha
  have HH1 := hide hh1
  have HK1 := hide hk1
  have IH := hide ih
  have HY := hide hy
  have HKL := hide hkl
  have hse := sizeT_eq x
  rw [hd] at hse
  have HSL := hide (fun (k : Nat) (h : k < x.kids.length) => sizeL_take h)
  have HSE := hide (fun (k : Nat) => sizeL_le x.kids k)
  have HSZ := hide (fun (k : Nat) (h : k < x.kids.length) => (by have := kids_lt x; have := elem_lt (List.getElem_mem h); omega : SizeOf.sizeOf x.kids[k] < s))
  have E0 := hide (Ext.alloc w (.cells #[.string ⟨x.kind.toArray⟩, .int .i64 x.form, .slice y.dA y.dn y.dc, .slice y.kA y.kn y.kc] 66))
  have HT : Hid (sizeL (x.kids.take y.kn) = sizeL x.kids) := hide (by rw [← hkl, List.take_length])
  have hkb := ha.bound
  have X0 := hide (Blk.new w 66 #[.string ⟨x.kind.toArray⟩, .int .i64 x.form, .slice y.dA y.dn y.dc, .slice y.kA y.kn y.kc])
  obtain ⟨S, hS⟩ : ∃ S, sizeT x = S := ⟨_, rfl⟩
  rw [hS] at hse hb ⊢
  have hl0 := HSE.out 0
  clear ha hh1 hk1 ih hy hkl hd hh hk hs hS
  generalize x.form = xf at *
  generalize x.kind = xk at *
  generalize y.dn = dn at *
  generalize y.dA = dA at *
  generalize y.dc = dc at *
  generalize y.kn = kn at *
  generalize y.kA = kA at *
  generalize y.kc = kc at *
  generalize x.kids = l at *
  obtain ⟨n1, hn1⟩ : ∃ n1, n1 = 8 + dn + (if xf = 1 then 8 else 0) := ⟨_, rfl⟩
  rw [← hn1] at hse
  have HN1 := hide hn1
  have hnb : n1 ≤ S := by omega
  have HSS := hide hse
  have HLE : Hid (∀ k, n1 + sizeL (l.take k) ≤ S) := hide (fun k => by have := HSE.out k; omega)
  have hdb : 8 + dn + 8 ≤ S + 8 := by split at hn1 <;> omega
  clear hse hn1 hl0
  go_enter Try.func23, Try.ntmps23
  go_upto_region 1 with (fail)
  refine gen_wpC fun w0 h0 => ?_
  have F0 : Hid (Ext w w0) := hide (by rw [h0]; exact E0.out)
  have Y0 := hide (show Blk w0 w.heap.size 66 #[.string ⟨xk.toArray⟩, .int .i64 xf, .slice dA dn dc, .slice kA kn kc] from by rw [h0]; exact X0.out)
  clear h0 E0 X0
  have y1 : w0.cell? ⟨w.heap.size, 1, none⟩ = some (.int .i64 xf) := Y0.out.cell 1
  have y2 : w0.cell? ⟨w.heap.size, 2, none⟩ = some (.slice dA dn dc) := Y0.out.cell 2
  have y3 : w0.cell? ⟨w.heap.size, 3, none⟩ = some (.slice kA kn kc) := Y0.out.cell 3
  have j1 : IntKind.i64.wrap (8 + (dn : Int)) = 8 + (dn : Int) := by rw [IntKind.wrap_i64]; omega
  have j2 : IntKind.i64.wrap (8 + (dn : Int) + 8) = 8 + (dn : Int) + 8 := by rw [IntKind.wrap_i64]; omega
  go_upto_if 12 with (fail)
  go_cut [3] (fun r3 wx => r3 = .int .i64 (n1 : Int) ∧ w0 = wx)
  case first =>
    by_cases hf : xf = 1
    · have HN2 : Hid ((n1 : Int) = 8 + (dn : Int) + 8) := hide (by have := HN1.out; rw [if_pos hf] at this; omega)
      subst hf
      go_wp2_with fail
      go_meet
      exact ⟨int_val HN2.out.symm, rfl⟩
    · have HN2 : Hid ((n1 : Int) = 8 + (dn : Int)) := hide (by have := HN1.out; rw [if_neg hf] at this; omega)
      have d0 : (xf == 1) = false := by rw [beq_eq_false_iff_ne]; exact hf
      go_wp2_with fail
      go_meet
      exact ⟨int_val HN2.out.symm, rfl⟩
  case rest =>
  obtain ⟨rfl, rfl⟩ := hcut
  clear j1 j2 y1 y2
  go_wp2_with fail
  go_loopw [3, 18] (fun r3 ri wr => ∃ k : Nat, k ≤ kn ∧ ri = .int .i64 k ∧ r3 = .int .i64 ((n1 + sizeL (l.take k) : Nat) : Int) ∧ Hid (Ext w0 wr)) (fun _ ri _ => kn - (intOf ri).toNat)
  case atStart => exact ⟨0, by omega, rfl, by simp [sizeL], hide (Ext.refl _)⟩
  case round =>
    obtain ⟨k, hk, rfl, rfl, HX⟩ := hrel
    by_cases hlt : k < kn
    · have hkl : k < l.length := by have := HKL.out; omega
      have hky : k < ys.length := by have := HY.out; omega
      have EX := Ext.trans F0.out HX.out
      have hat := HA.out.ext EX
      have hq := (HH1.out k _ _ (List.getElem?_eq_getElem hky) (List.getElem?_eq_getElem hkl)).ext EX
      have hr := (HK1.out k _ _ (List.getElem?_eq_getElem hky) (List.getElem?_eq_getElem hkl)).ext EX
      have hsz := HSZ.out k hkl
      have HSU := hide (HSL.out k hkl)
      have hle := HLE.out (k + 1)
      rw [HSU.out] at hle
      obtain ⟨b, o, rfl, _⟩ := hat.addr (by omega)
      have gy : ys.getD k default = ys[k] := by simp [List.getD, hky]
      generalize ys[k] = z at *
      generalize l[k] = u at *
      have a0 : wr.cell? ⟨b, o + k * 4, none⟩ = some (.string ⟨z.kind.toArray⟩) := hat.cellK hlt default 0 _ (by rw [gy]; rfl)
      have a1 : wr.cell? ⟨b, o + k * 4 + 1, none⟩ = some (.int .i64 z.form) := hat.cellK hlt default 1 _ (by rw [gy]; rfl)
      have a2 : wr.cell? ⟨b, o + k * 4 + 2, none⟩ = some (.slice z.dA z.dn z.dc) := hat.cellK hlt default 2 _ (by rw [gy]; rfl)
      have a3 : wr.cell? ⟨b, o + k * 4 + 3, none⟩ = some (.slice z.kA z.kn z.kc) := hat.cellK hlt default 3 _ (by rw [gy]; rfl)
      rw [hq.1] at a0
      rw [hq.2.1] at a1
      have HC := hide (IH.out _ hsz (Nat.le_refl _) (hq.ext (Ext.alloc wr (.cells #[.string ⟨u.kind.toArray⟩, .int .i64 u.form, .slice z.dA z.dn z.dc, .slice z.kA z.kn z.kc] 66))) (hr.ext (Ext.alloc wr (.cells #[.string ⟨u.kind.toArray⟩, .int .i64 u.form, .slice z.dA z.dn z.dc, .slice z.kA z.kn z.kc] 66))) (by omega))
      generalize sizeT u = su at *
      generalize sizeL (l.take k) = sl at *
      have i1 : (k : Int) < (kn : Int) := by omega
      have i0 : (0 : Int) ≤ (k : Int) := by omega
      have i8 : IntKind.i64.wrap ((k : Int) + 1) = (k : Int) + 1 := by rw [IntKind.wrap_i64]; omega
      have i9 : IntKind.i64.wrap (((n1 + sl : Nat) : Int) + (su : Int)) = ((n1 + (sl + su) : Nat) : Int) := by rw [IntKind.wrap_i64]; omega
      generalize ((n1 + sl : Nat) : Int) = acc at *
      clear hat hq hr hsz gy EX hky hkl
      go_wp2_with fail
      with_reducible refine HC.out.mono ?_
      rintro e w5 ⟨rfl, e5⟩
      have E5 := hide (Ext.trans HX.out (Ext.trans (Ext.alloc _ _) e5))
      clear e5
      go_wp2_with fail
      exact ⟨⟨k + 1, by omega, by go_num, int_val (by rw [HSU.out]; omega), E5⟩, by simp [intOf]; omega⟩
    · obtain rfl : k = kn := by omega
      have HE : Hid (((n1 + sizeL (l.take k) : Nat) : Int) = (S : Int)) := hide (by rw [HT.out]; have := HSS.out; omega)
      clear hlt
      go_wp2_with fail
      go_ret
      exact ⟨ret_int HE.out, Ext.trans F0.out HX.out⟩
theorem size_any (s : Nat) : SizStmt s := by
  induction s using Nat.strongRecOn with
  | _ s ih => exact size_step s ih
end Go.Proofs.Ytkbmgakehlmcnaa
namespace Go.Proofs.Ytkbmgakehlmcnaa
theorem tabBy_le {l : List Smp} {ch pl : List Int} (hl : l.length ≤ 5000) (hc : ch.length ≤ 5000) (hp : pl.length ≤ 5000) : (tabBy (cmpT l ch pl)).length ≤ 400000 := by
  have a1 := (rowK_bd Smp.step l l.length).1
  have a2 := (rowK_bd Smp.shift l l.length).1
  have a3 : (cmpT l ch pl).sizes.length ≤ 5000 := by
    unfold cmpT
    simp only
    split
    · rw [List.length_take]; omega
    · rw [szK_len]; exact hl
  have a4 : (cmpT l ch pl).keys.length ≤ 5000 := by
    unfold cmpT
    simp only
    split
    · simp
    · exact Nat.le_trans (keyK_len l l.length) hl
  have a5 := chK_len ch ch.length
  have a6 := keyB_len (cmpT l ch pl).nok (cmpT l ch pl).keys
  have a7 : (cmpT l ch pl).steps.length ≤ 5000 := Nat.le_trans a1 hl
  have a8 : (cmpT l ch pl).shifts.length ≤ 5000 := Nat.le_trans a2 hl
  have a9 : (cmpT l ch pl).chunks.length ≤ 5000 := Nat.le_trans a5 hc
  have a10 : (cmpT l ch pl).places.length ≤ 5000 := hp
  unfold tabBy
  simp only [List.length_append, liB_len, rnN_len, beN_len]
  omega
theorem leaf_size (k d : List UInt8) : sizeT (leafB k d) = 8 + d.length := by
  rw [sizeT_eq]
  show 8 + d.length + (if (0 : Int) = 1 then 8 else 0) + sizeL [] = _
  rw [if_neg (by omega)]
  rfl
theorem trk_size {x : TrkT} {ch : Nat} {pl : List Int} (hc : 1 ≤ ch) (hn : x.name.length ≤ 40) (hl : x.smp.length ≤ 5000) (he : x.ed.length ≤ 50) (hp : pl.length ≤ 5000) : sizeT (trkB x ch pl) ≤ 500000 := by
  have h1 : (ckL x.smp.length ch).length ≤ 5000 := by unfold ckL; rw [ckK_len]; exact Nat.le_trans (ckN_le hc) hl
  have h2 := tabBy_le hl h1 hp
  rw [sizeT_eq]
  show 8 + ([] : List UInt8).length + (if (0 : Int) = 1 then 8 else 0) + sizeL [leafB kName x.name, leafB kRate (beN 4 (u64N x.scale)), leafB kEdit (edB x.ed), leafB kTabl (tabBy (cmpT x.smp (ckL x.smp.length ch) pl))] ≤ _
  rw [if_neg (by omega), sizeL, sizeL, sizeL, sizeL, sizeL, leaf_size, leaf_size, leaf_size, leaf_size, beN_len, edB_len]
  simp only [List.length_nil]
  omega
theorem nmS_of {sc : Int} {T : List TrkT} (h : FilOk sc T) : nmS T := fun i hi => by
  have h1 := (trF_ok (h.tracks i hi)).1
  unfold nameB at h1
  split at h1
  · rename_i h2
    have : (⟨(T.getD i default).name.toArray⟩ : ByteArray).size = (T.getD i default).name.length := by show (T.getD i default).name.toArray.size = _; rw [List.size_toArray]
    omega
  · cases h1
theorem kids_size {sc : Int} {T : List TrkT} {ch : Nat} {P : List (List Int)} (hr : FilR T) (hn : nmS T) (hc : 1 ≤ ch) (hp : ∀ i, (P.getD i []).length ≤ 5000) : ∀ i, i ≤ T.length → sizeL (kidsB sc T ch P i) ≤ 12 + 500000 * i
  | 0, _ => by
    show sizeL [leafB kHead (beN 4 (u64N sc))] ≤ _
    rw [sizeL, sizeL, leaf_size, beN_len]
    omega
  | i + 1, hi => by
    have h1 := kids_size (sc := sc) hr hn hc hp i (by omega)
    have h2 := trk_size (pl := P.getD i []) hc (hn i (by omega)) (hr.smp i (by omega)).2 (hr.ed i (by omega)) (hp i)
    rw [kidsB, sizeL_app, sizeL, sizeL]
    omega
theorem film_size {sc : Int} {T : List TrkT} {ch : Nat} {P : List (List Int)} (hr : FilR T) (hn : nmS T) (hc : 1 ≤ ch) (hp : ∀ i, (P.getD i []).length ≤ 5000) : sizeT (filmB sc T ch P) ≤ 5000000 := by
  have h1 := kids_size (sc := sc) hr hn hc hp T.length (Nat.le_refl _)
  have h2 := hr.few
  rw [sizeT_eq]
  show 8 + ([] : List UInt8).length + (if (0 : Int) = 1 then 8 else 0) + sizeL (kidsB sc T ch P T.length) ≤ _
  rw [if_neg (by omega)]
  simp only [List.length_nil]
  omega
theorem both_size (sc : Int) (T : List TrkT) (ch : Nat) (P : List (List Int)) (d : List UInt8) : sizeL [filmB sc T ch P, dataB d] = sizeT (filmB sc T ch P) + 8 + d.length := by
  rw [sizeL, sizeL, sizeL]
  unfold dataB
  rw [leaf_size]
  omega
theorem fau_leaf {k d : List UInt8} {r : List BoxT} {dep c m : Nat} (hk : isKindB k = true) (hh : hasKidsB k = false) (hd : dep < 8) (hc : c + 1 ≤ 2000) (h : fauL r dep (c + 1) = (0, m)) : fauL (leafB k d :: r) dep c = (0, m) :=
  fauL_cons (m' := c + 1) (by omega) (elB_of hk (.inl rfl) (fun e => by rw [hh] at e; cases e) (fun _ => rfl) (fun e => by omega)) (by rw [fauL]) h
theorem fau_app {x : BoxT} {dep : Nat} : ∀ {l : List BoxT} {c m m' : Nat}, (∀ y ∈ l, y.form = 0) → fauL l dep c = (0, m) → fauL [x] dep m = (0, m') → fauL (l ++ [x]) dep c = (0, m')
  | [], c, m, m', _, h, h2 => by
    have : c = m := by rw [fauL] at h; injection h
    subst this
    exact h2
  | .mk k f d kl :: r, c, m, m', hf, h, h2 => by
    obtain ⟨h3, h4, q, h5, h6⟩ := fauL_ok h
    have hf0 : f = 0 := hf _ (List.mem_cons_self ..)
    subst hf0
    refine fauL_cons h3 ?_ h5 (fau_app (fun y hy => hf y (List.mem_cons_of_mem _ hy)) h6 h2)
    have h7 := elB_ok h4
    unfold elB at h4 ⊢
    split at h4
    · omega
    split at h4
    · omega
    split at h4
    · omega
    rename_i a1 a2 a3
    rw [if_neg a1, if_neg a2, if_neg a3, if_neg (by omega)]
theorem fau_trk {x : TrkT} {ch : Nat} {pl : List Int} {dep c : Nat} (hd : dep < 7) (hc : c + 5 ≤ 2000) : fauL [trkB x ch pl] dep c = (0, c + 5) := by
  refine fauL_cons (m' := c + 5) (by omega) (elB_of (by decide) (.inl rfl) (fun _ => rfl) (fun e => by have h0 : hasKidsB kTrck = true := (by decide); rw [h0] at e; cases e) (fun e => by omega)) ?_ (by rw [fauL])
  refine fau_leaf (by decide) (by decide) (by omega) (by omega) ?_
  refine fau_leaf (by decide) (by decide) (by omega) (by omega) ?_
  refine fau_leaf (by decide) (by decide) (by omega) (by omega) ?_
  exact fau_leaf (by decide) (by decide) (by omega) (by omega) (by rw [fauL])
theorem kids_form (sc : Int) (T : List TrkT) (ch : Nat) (P : List (List Int)) : ∀ i, ∀ y ∈ kidsB sc T ch P i, y.form = 0
  | 0, y, hy => by
    rw [kidsB, List.mem_singleton] at hy
    subst hy; rfl
  | i + 1, y, hy => by
    rw [kidsB, List.mem_append] at hy
    rcases hy with hy | hy
    · exact kids_form sc T ch P i y hy
    · rw [List.mem_singleton] at hy
      subst hy; rfl
theorem fau_kids (sc : Int) (T : List TrkT) (ch : Nat) (P : List (List Int)) {dep c : Nat} (hd : dep < 7) : ∀ i, c + 1 + 5 * i ≤ 2000 → fauL (kidsB sc T ch P i) dep c = (0, c + 1 + 5 * i)
  | 0, h => fau_leaf (by decide) (by decide) (by omega) (by omega) (by rw [fauL])
  | i + 1, h => by
    have h1 := fau_kids sc T ch P (dep := dep) (c := c) hd i (by omega)
    have h2 := fau_trk (x := T.getD i default) (ch := ch) (pl := P.getD i []) (dep := dep) (c := c + 1 + 5 * i) hd (by omega)
    rw [kidsB]
    rw [show c + 1 + 5 * (i + 1) = c + 1 + 5 * i + 5 by omega]
    exact fau_app (kids_form sc T ch P i) h1 h2
theorem fau_both (sc : Int) {T : List TrkT} (ch : Nat) (P : List (List Int)) (d : List UInt8) (h8 : T.length ≤ 8) : fauL [filmB sc T ch P, dataB d] 0 0 = (0, 2 + 5 * T.length + 1) := by
  refine fauL_cons (m' := 0 + 1 + 1 + 5 * T.length) (by omega) (elB_of (by decide) (.inl rfl) (fun _ => rfl) (fun e => by have h0 : hasKidsB kFilm = true := (by decide); rw [h0] at e; cases e) (fun e => by omega)) (fau_kids sc T ch P (by omega) T.length (by omega)) ?_
  rw [show 2 + 5 * T.length + 1 = 0 + 1 + 1 + 5 * T.length + 1 by omega]
  exact fau_leaf (by decide) (by decide) (by omega) (by omega) (by rw [fauL])
section
variable {T : List TrkT} {D : List (List UInt8)} {ch a b : Nat}
theorem layI_same {n i : Nat} {s t : LayS} (h1 : s.out = t.out) (h2 : s.pl.length = t.pl.length) (h3 : ∀ j, (s.pl.getD j []).length = (t.pl.getD j []).length) :
    (layI T D ch a n i s).out = (layI T D ch b n i t).out ∧ (layI T D ch a n i s).pl.length = (layI T D ch b n i t).pl.length ∧ ∀ j, ((layI T D ch a n i s).pl.getD j []).length = ((layI T D ch b n i t).pl.getD j []).length := by
  unfold layI
  split
  · exact ⟨h1, h2, h3⟩
  · refine ⟨by simp only [h1], by simp only [List.length_set, h2], fun j => ?_⟩
    simp only
    have h4 := h3 j
    have h5 := h3 i
    simp only [List.getD_eq_getElem?_getD, List.getElem?_set] at h4 h5 ⊢
    by_cases hij : i = j
    · subst hij
      by_cases hl : i < s.pl.length
      · have hl2 : i < t.pl.length := by omega
        simp only [hl, hl2, if_true, Option.getD_some, List.length_append, h5]
        rfl
      · have hl2 : ¬ i < t.pl.length := by omega
        simp only [hl, hl2, if_true, if_false]
    · simp only [hij, if_false, h4]
theorem layK_same {n : Nat} {s t : LayS} (h1 : s.out = t.out) (h2 : s.pl.length = t.pl.length) (h3 : ∀ j, (s.pl.getD j []).length = (t.pl.getD j []).length) : ∀ k,
    (layK T D ch a n s k).out = (layK T D ch b n t k).out ∧ (layK T D ch a n s k).pl.length = (layK T D ch b n t k).pl.length ∧ ∀ j, ((layK T D ch a n s k).pl.getD j []).length = ((layK T D ch b n t k).pl.getD j []).length
  | 0 => ⟨h1, h2, h3⟩
  | k + 1 => by
    obtain ⟨a1, a2, a3⟩ := layK_same (n := n) h1 h2 h3 k
    exact layI_same a1 a2 a3
theorem layR_same : ∀ n, (layR T D ch a n).out = (layR T D ch b n).out ∧ (layR T D ch a n).pl.length = (layR T D ch b n).pl.length ∧ ∀ j, ((layR T D ch a n).pl.getD j []).length = ((layR T D ch b n).pl.getD j []).length
  | 0 => ⟨rfl, rfl, fun _ => rfl⟩
  | n + 1 => by
    obtain ⟨a1, a2, a3⟩ := layR_same n
    exact layK_same a1 a2 a3 T.length
theorem layF_same : (layF T D ch a).out = (layF T D ch b).out ∧ ∀ j, ((layF T D ch a).pl.getD j []).length = ((layF T D ch b).pl.getD j []).length := ⟨(layR_same _).1, (layR_same _).2.2⟩
end
def headN (sc : Int) (T : List TrkT) (ch : Nat) (P : List (List Int)) : Nat := sizeT (filmB sc T ch P) + 8
def wfF (sc : Int) (T : List TrkT) (D : List (List UInt8)) (ch : Int) : Int :=
  if filF sc T ≠ 0 then filF sc T else if ch < 1 ∨ 1000 < ch then 1 else if datF T D ≠ 0 then datF T D
  else if 1000000 < headN sc T ch.toNat (layF T D ch.toNat 0).pl + (layF T D ch.toNat 0).out.length then 2 else 0
def lay2 (sc : Int) (T : List TrkT) (D : List (List UInt8)) (ch : Nat) : LayS := layF T D ch (headN sc T ch (layF T D ch 0).pl)
def wfL (sc : Int) (T : List TrkT) (D : List (List UInt8)) (ch : Nat) : List BoxT := [filmB sc T ch (lay2 sc T D ch).pl, dataB (lay2 sc T D ch).out]
def wfB (sc : Int) (T : List TrkT) (D : List (List UInt8)) (ch : Int) : List UInt8 := if wfF sc T D ch = 0 then bytL (wfL sc T D ch.toNat) else []
theorem layF_rows {T : List TrkT} {D : List (List UInt8)} {ch a : Nat} (hr : FilR T) (hc : 1 ≤ ch) (i : Nat) : ((layF T D ch a).pl.getD i []).length ≤ 5000 := (layR_few (fun i hi => (hr.smp i hi).2) hc _ i).1
theorem wf_sizes {sc : Int} {T : List TrkT} {D : List (List UInt8)} {ch : Nat} (hr : FilR T) (hn : nmS T) (hc : 1 ≤ ch) (ho : (layF T D ch 0).out.length ≤ 1000000) : sizeL (wfL sc T D ch) ≤ 10000000 := by
  have h1 := film_size (sc := sc) (P := (lay2 sc T D ch).pl) hr hn hc (fun i => layF_rows hr hc i)
  have h2 : (lay2 sc T D ch).out = (layF T D ch 0).out := layF_same.1
  unfold wfL
  rw [both_size, h2]
  omega
end Go.Proofs.Ytkbmgakehlmcnaa
