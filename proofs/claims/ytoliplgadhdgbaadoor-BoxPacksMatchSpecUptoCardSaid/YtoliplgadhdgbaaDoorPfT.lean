/- Proved: for all boxes and every path of together at most 1048576 values and letters BoxPacksMatchSpec returns true: Pack and Find of the program and of the document agree, with all errors. Conditions: the bound of the second form; the listed tables of the library's read as the program's text lays them (tied by the card). -/
import Derived.Test.YtoliplgadhdgbaaDoorBbkP
import Derived.Lib.SplitLaws
import Derived.Test.YtoliplgadhdgbaaDoorMem
import Derived.Test.YtoliplgadhdgbaaDoorBoxB
import Derived.Test.YtoliplgadhdgbaaDoorMade
import Derived.Test.YtoliplgadhdgbaaDoorTree
import Derived.Test.YtoliplgadhdgbaaDoorStep
import Derived.Test.YtoliplgadhdgbaaDoorBfaA
import Derived.Test.YtoliplgadhdgbaaDoorRefA
import Derived.Test.YtoliplgadhdgbaaDoorBpkA
import Derived.Test.YtoliplgadhdgbaaDoorWrtR
import Derived.Test.YtoliplgadhdgbaaDoorBapB
import Derived.Test.YtoliplgadhdgbaaDoorTakeD
import Derived.Test.YtoliplgadhdgbaaDoorProg
import Derived.Shelf.Strings.Split
import Derived.Test.YtoliplgadhdgbaaDoorOpbA
import Derived.Test.YtoliplgadhdgbaaDoorCards
import Derived.Test.YtoliplgadhdgbaaDoorTie
import Derived.OpenShut
import Derived.Deep.DeepHandedRow
import Derived.Lib.LaidTab
import Derived.Shelf.Vars
namespace Go.Proofs.YtoliplgadhdgbaaDoor
/-- What stands between slashes. -/
def prtL : List UInt8 → List (List UInt8)
  | [] => [[]]
  | b :: l => if b = 47 then [] :: prtL l else match prtL l with
    | [] => [[b]]
    | p :: r => (b :: p) :: r
theorem prtL_pos : ∀ l, 0 < (prtL l).length
  | [] => by simp [prtL]
  | b :: l => by
    rw [prtL]
    split
    · simp
    · split <;> simp
theorem prtL_le : ∀ l, (prtL l).length ≤ l.length + 1
  | [] => by simp [prtL]
  | b :: l => by
    have ih := prtL_le l
    rw [prtL]
    split
    · simp only [List.length_cons]; omega
    · split
      · simp
      · rename_i p r h; rw [h] at ih; simp only [List.length_cons] at ih ⊢; omega
theorem prtL_slash : ∀ l, prtL (l ++ [47]) = prtL l ++ [[]]
  | [] => by simp [prtL]
  | b :: l => by
    rw [List.cons_append, prtL, prtL_slash l, prtL]
    split
    · rfl
    · have h0 := prtL_pos l
      cases hq : prtL l with
      | nil => rw [hq] at h0; simp at h0
      | cons p r => rfl
theorem prtL_byte (c : UInt8) (hc : c ≠ 47) : ∀ l, prtL (l ++ [c]) = (prtL l).set ((prtL l).length - 1) ((prtL l).getD ((prtL l).length - 1) [] ++ [c])
  | [] => by simp [prtL, hc]
  | b :: l => by
    rw [List.cons_append, prtL, prtL_byte c hc l, prtL]
    have h0 := prtL_pos l
    cases hq : prtL l with
    | nil => rw [hq] at h0; simp at h0
    | cons p r =>
      by_cases hb : b = 47
      · rw [if_pos hb, if_pos hb]
        cases r with
        | nil => simp
        | cons q r => simp
      · rw [if_neg hb, if_neg hb]
        cases r with
        | nil => simp
        | cons q r => simp
theorem prtL_take {l : List UInt8} {k : Nat} (h : k < l.length) : prtL (l.take (k + 1)) = if l[k] = 47 then prtL (l.take k) ++ [[]] else (prtL (l.take k)).set ((prtL (l.take k)).length - 1) ((prtL (l.take k)).getD ((prtL (l.take k)).length - 1) [] ++ [l[k]]) := by
  rw [List.take_succ_eq_append_getElem h]
  by_cases hc : l[k] = 47
  · rw [if_pos hc, hc, prtL_slash]
  · rw [if_neg hc, prtL_byte _ hc]
/-- A part is no longer than what it is a part of. -/
theorem prtL_short : ∀ (l : List UInt8) (p : List UInt8), p ∈ prtL l → p.length ≤ l.length
  | [], p, h => by simp [prtL] at h; subst h; simp
  | b :: l, p, h => by
    rw [prtL] at h
    split at h
    · rcases List.mem_cons.1 h with rfl | h
      · simp
      · have := prtL_short l p h; simp only [List.length_cons]; omega
    · split at h
      · simp at h; subst h; simp
      · rename_i q r hq
        rcases List.mem_cons.1 h with rfl | h
        · have := prtL_short l q (by rw [hq]; exact List.mem_cons_self ..); simp only [List.length_cons]; omega
        · have := prtL_short l p (by rw [hq]; exact List.mem_cons_of_mem _ h); simp only [List.length_cons]; omega
theorem splitK_slash (k : Nat) (l : List UInt8) : Go.Lib.splitK [47] 0 (k + 1) (47 :: l) = [] :: Go.Lib.splitK [47] 0 k l := by
  have hix : Go.Lib.index (47 :: l) [47] = 0 := by rw [Go.Lib.index]; simp [List.isPrefixOf]
  rw [Go.Lib.splitK, hix]
  simp
theorem splitK_byte (b : UInt8) (hb : b ≠ 47) (k : Nat) (l : List UInt8) : Go.Lib.splitK [47] 0 k (b :: l) = match Go.Lib.splitK [47] 0 k l with
    | [] => [[b]]
    | p :: r => (b :: p) :: r := by
  have hp : ([47] : List UInt8).isPrefixOf (b :: l) = false := by simp [List.isPrefixOf, Ne.symm hb]
  have hix : Go.Lib.index (b :: l) [47] = if Go.Lib.index l [47] == -1 then -1 else Go.Lib.index l [47] + 1 := by rw [Go.Lib.index, hp]; simp
  cases k with
  | zero => simp [Go.Lib.splitK]
  | succ k =>
    rw [Go.Lib.splitK, Go.Lib.splitK, hix]
    by_cases hm : Go.Lib.index l [47] = -1
    · rw [hm]; simp
    · have hge := Go.Lib.index_ge l [47]
      obtain ⟨j, hj⟩ : ∃ j : Nat, Go.Lib.index l [47] = j := ⟨(Go.Lib.index l [47]).toNat, by omega⟩
      rw [hj]
      have h1 : (((j : Nat) : Int) == -1) = false := by rw [beq_eq_false_iff_ne]; omega
      have h2 : (((j : Nat) : Int) + 1 == -1) = false := by rw [beq_eq_false_iff_ne]; omega
      have h3 : (((j : Nat) : Int) + 1).toNat = j + 1 := by omega
      rw [h1]
      simp [h2, h3]
theorem split_prt : ∀ l : List UInt8, Go.Lib.splitK [47] 0 (Go.Lib.count l [47]) l = prtL l
  | [] => by rw [Go.Lib.count_miss (by simp [Go.Lib.index])]; simp [Go.Lib.splitK, prtL]
  | b :: l => by
    by_cases hb : b = 47
    · subst hb
      rw [Go.Lib.count_cons_eq, Nat.add_comm, splitK_slash, split_prt l, prtL, if_pos rfl]
    · rw [Go.Lib.count_cons_ne b 47 l hb, splitK_byte b hb, split_prt l, prtL, if_neg hb]
/-- The boxes of a kind; what is in boxes. -/
def fltL (k : List UInt8) (l : List BoxT) : List BoxT := l.filter (fun x => decide (x.kind = k))
def kidsL (l : List BoxT) : List BoxT := l.flatMap BoxT.kids
theorem fltL_take {k : List UInt8} {l : List BoxT} {i : Nat} (h : i < l.length) : fltL k (l.take (i + 1)) = if l[i].kind = k then fltL k (l.take i) ++ [l[i]] else fltL k (l.take i) := by
  unfold fltL
  rw [List.take_succ_eq_append_getElem h, List.filter_append]
  by_cases hk : l[i].kind = k
  · rw [if_pos hk]; simp [hk]
  · rw [if_neg hk]; simp [hk]
theorem kidsL_take {l : List BoxT} {i : Nat} (h : i < l.length) : kidsL (l.take (i + 1)) = kidsL (l.take i) ++ l[i].kids := by
  unfold kidsL
  rw [List.take_succ_eq_append_getElem h, List.flatMap_append]
  simp
theorem kidsL_app (a b : List BoxT) : kidsL (a ++ b) = kidsL a ++ kidsL b := by unfold kidsL; rw [List.flatMap_append]
/-- The boxes below so many parts of a path. -/
def lvlL (ks : List (List UInt8)) (l : List BoxT) : Nat → List BoxT
  | 0 => l
  | i + 1 => kidsL (fltL (ks.getD i []) (lvlL ks l i))
/-- The boxes with a path. -/
def fndL (ks : List (List UInt8)) (l : List BoxT) : List BoxT := fltL (ks.getD (ks.length - 1) []) (lvlL ks l (ks.length - 1))
mutual
def cntT : BoxT → Nat
  | .mk _ _ _ l => 1 + cntL l
def cntL : List BoxT → Nat
  | [] => 0
  | x :: r => cntT x + cntL r
end
theorem cntT_eq (x : BoxT) : cntT x = 1 + cntL x.kids := by cases x; rw [cntT]; rfl
theorem cntL_app : ∀ (a b : List BoxT), cntL (a ++ b) = cntL a + cntL b
  | [], b => by simp [cntL]
  | x :: a, b => by rw [List.cons_append, cntL, cntL, cntL_app a b]; omega
theorem cntL_len : ∀ l : List BoxT, l.length ≤ cntL l
  | [] => by simp [cntL]
  | x :: r => by have := cntL_len r; rw [cntL, cntT_eq, List.length_cons]; omega
theorem cntL_flt (k : List UInt8) : ∀ l : List BoxT, cntL (fltL k l) ≤ cntL l
  | [] => by simp [fltL, cntL]
  | x :: r => by
    have ih := cntL_flt k r
    unfold fltL at ih ⊢
    rw [List.filter_cons, cntL]
    split
    · rw [cntL]; omega
    · omega
theorem cntL_kids : ∀ l : List BoxT, cntL (kidsL l) ≤ cntL l
  | [] => by simp [kidsL, cntL]
  | x :: r => by
    have ih := cntL_kids r
    have h1 := cntT_eq x
    have h2 : kidsL (x :: r) = x.kids ++ kidsL r := by unfold kidsL; simp
    rw [h2, cntL_app, cntL]
    omega
theorem cntL_lvl (ks : List (List UInt8)) (l : List BoxT) : ∀ i, cntL (lvlL ks l i) ≤ cntL l
  | 0 => Nat.le_refl _
  | i + 1 => Nat.le_trans (cntL_kids _) (Nat.le_trans (cntL_flt _ _) (cntL_lvl ks l i))
theorem lvl_len (ks : List (List UInt8)) (l : List BoxT) (i : Nat) : (lvlL ks l i).length ≤ cntL l := Nat.le_trans (cntL_len _) (cntL_lvl ks l i)
theorem flt_len (k : List UInt8) (ks : List (List UInt8)) (l : List BoxT) (i : Nat) : (fltL k (lvlL ks l i)).length ≤ cntL l := Nat.le_trans (cntL_len _) (Nat.le_trans (cntL_flt _ _) (cntL_lvl ks l i))
theorem cntL_take (l : List BoxT) (k : Nat) : cntL (l.take k) ≤ cntL l := by
  conv => rhs; rw [← List.take_append_drop k l, cntL_app]
  omega
theorem kids_len (k : List UInt8) (ks : List (List UInt8)) (l : List BoxT) (i j : Nat) : (kidsL ((fltL k (lvlL ks l i)).take j)).length ≤ cntL l :=
  Nat.le_trans (cntL_len _) (Nat.le_trans (cntL_kids _) (Nat.le_trans (cntL_take _ _) (Nat.le_trans (cntL_flt _ _) (cntL_lvl ks l i))))
theorem kids_len2 (k : List UInt8) (ks : List (List UInt8)) (l : List BoxT) (i j : Nat) : (kidsL (fltL k ((lvlL ks l i).take j))).length ≤ cntL l :=
  Nat.le_trans (cntL_len _) (Nat.le_trans (cntL_kids _) (Nat.le_trans (cntL_flt _ _) (Nat.le_trans (cntL_take _ _) (cntL_lvl ks l i))))
theorem fau_count : ∀ (l : List BoxT) (dep c m : Nat), fauL l dep c = (0, m) → m = c + cntL l
  | [], dep, c, m, h => by rw [fauL] at h; injection h with _ h2; rw [cntL]; omega
  | .mk k f d l :: r, dep, c, m, h => by
    obtain ⟨_, _, m', h3, h4⟩ := fauL_ok h
    have i1 := fau_count l (dep + 1) (c + 1) m' h3
    have i2 := fau_count r dep m' m h4
    rw [cntL, cntT]
    omega
/-- Is each part a kind? -/
def kindsB (ks : List (List UInt8)) : Bool := ks.all isKindB
theorem kindsB_no {ks : List (List UInt8)} {i : Nat} (h : i < ks.length) (hb : isKindB ks[i] = false) : kindsB ks = false := by
  unfold kindsB
  rw [List.all_eq_false]
  exact ⟨ks[i], List.getElem_mem h, by simp [hb]⟩
theorem kindsB_take {ks : List (List UInt8)} {i : Nat} (h : i < ks.length) : kindsB (ks.take (i + 1)) = (kindsB (ks.take i) && isKindB ks[i]) := by
  unfold kindsB
  rw [List.take_succ_eq_append_getElem h, List.all_append]
  simp
end Go.Proofs.YtoliplgadhdgbaaDoor
namespace Go.Proofs.YtoliplgadhdgbaaDoor
open Go.RowKit
/-- Texts as cells. -/
abbrev eSt (k : List UInt8) : List Value := [.string ⟨k.toArray⟩]
theorem len_eSt (x : List UInt8) : (eSt x).length = 1 := rfl
theorem one_eSt (x : List UInt8) : ∀ u ∈ eSt x, u.oneCell' = true := by intro u hu; simp at hu; subst hu; rfl
theorem Tryd.info9 : (Tryd.prog.info? 9).map (fun i => (i.zero, i.size, i.bytes)) = some (some (.string ByteArray.empty), 1, 16) := by kernel_rfl
theorem Own.lit1 {α : Type} {enc : α → List Value} (w : World) (base : Nat) (t : TypeId) (x : α) (v : Value) (hv : enc x = [v]) (hb : base ≤ w.heap.size) : Own (w.alloc (.cells #[v] t)) base t 1 enc (.slice (some ⟨w.heap.size, 0, none⟩) 1 1) [x] := by
  have := World.ownsRow_lit (base := base) (size := 1) (e := t) w #[v] 1 hb (by unfold maxLen; omega) rfl
  unfold Own
  rw [List.flatMap_cons, List.flatMap_nil, List.append_nil, hv]
  exact this
theorem str_snoc (p : List UInt8) (s : ByteArray) (k : Nat) (hk : k < s.size) : (⟨p.toArray⟩ : ByteArray) ++ s.extract k (k + 1) = ⟨(p ++ [s[k]]).toArray⟩ := by
  apply ByteArray.ext
  rw [ByteArray.data_append, ByteArray.data_extract]
  apply Array.ext'
  have hk2 : k < s.data.toList.length := by simpa using hk
  simp only [Array.toList_append, Array.toList_extract, List.append_cancel_left_eq]
  rw [List.extract_eq_take_drop, show k + 1 - k = 1 by omega, List.drop_eq_getElem_cons hk2]
  rfl
theorem gen_blk {n : Nat} {K : Exit → Act → World → Prop} {x : Exit} {a : Act} {w : World} (h : ∀ W, W = w → Exit.inBlock n K x a W) : Exit.inBlock n K x a w := h w rfl
set_option linter.unusedVariables false in
set_option maxRecDepth 100000 in
set_option maxHeartbeats 4000000 in
theorem parts_any (s : ByteArray) (w : World) (hs : s.size < 4294967281) :
    Calls Tryd.prog 18 #[.string s] w fun e w' => ∃ A c, e = .returned (.slice A (prtL s.data.toList).length c) ∧ At w' 1 eSt A (prtL s.data.toList).length c (prtL s.data.toList) ∧ Ext w w' := by
  have hsz : s.data.toList.length = s.size := by simp
  have HTK : Hid (∀ (k : Nat) (h : k < s.size), prtL (s.data.toList.take (k + 1)) = if s[k] = 47 then prtL (s.data.toList.take k) ++ [[]] else (prtL (s.data.toList.take k)).set ((prtL (s.data.toList.take k)).length - 1) ((prtL (s.data.toList.take k)).getD ((prtL (s.data.toList.take k)).length - 1) [] ++ [s[k]])) := hide (fun k h => prtL_take (by simpa using h))
  have HEND : Hid (s.data.toList.take s.size = s.data.toList) := hide (by rw [← hsz, List.take_length])
  have HLE : Hid (∀ k, (prtL (s.data.toList.take k)).length ≤ s.size + 1) := hide (fun k => by have h1 := prtL_le (s.data.toList.take k); rw [List.length_take] at h1; omega)
  have HPO := hide (fun k => prtL_pos (s.data.toList.take k))
  obtain ⟨i0_, hi0, hz0, hz1, hz2⟩ := info_parts Tryd.info9
  have HO0 := hide (Own.lit1 (enc := eSt) w w.heap.size 9 [] (.string ByteArray.empty) rfl (Nat.le_refl _))
  have HE0 := hide (Ext.alloc w (.cells #[.string ByteArray.empty] 9))
  clear hsz
  go_enter Tryd.func18, Tryd.ntmps18
  go_wp2_with fail
  go_loopw [3, 4] (fun r3 ri wr => ∃ (k g m cc : Nat), r3 = .slice (some ⟨g, 0, none⟩) m cc ∧ 0 < m ∧ k ≤ s.size ∧ ri = .int .i64 k ∧ Hid ((prtL (s.data.toList.take k)).length = m) ∧ Hid (Own wr w.heap.size 9 1 eSt (.slice (some ⟨g, 0, none⟩) m cc) (prtL (s.data.toList.take k))) ∧ Hid (Ext w wr)) (fun _ ri _ => s.size - (intOf ri).toNat)
  case atStart => exact ⟨0, _, 1, 1, rfl, by omega, by omega, rfl, hide (by simp [prtL]), hide (by rw [List.take_zero, prtL]; exact HO0.out), HE0⟩
  case round =>
    clear HO0 HE0
    obtain ⟨k, g, m, cc, rfl, hm, hk, rfl, HM, HO, HX⟩ := hrel
    by_cases hlt : k < s.size
    · have hle := HLE.out k
      rw [HM.out] at hle
      have HTK1 := hide (HTK.out k hlt)
      have i1 : (k : Int) < (s.size : Int) := by omega
      by_cases hc : s[k] = 47
      · have HV : Hid (prtL (s.data.toList.take (k + 1)) = prtL (s.data.toList.take k) ++ [[]]) := hide (by rw [HTK1.out, if_pos hc])
        have d0 : (((s[k].toNat : Nat) : Int) == 47) = true := by rw [hc]; rfl
        have S1 : Hid ((prtL (s.data.toList.take k)).length + 1 ≤ maxLen) := hide (by rw [HM.out]; unfold maxLen; omega)
        have S2 : Hid (((prtL (s.data.toList.take k)).length + 1) * 16 ≤ 140737488355328) := hide (by rw [HM.out]; omega)
        have S3 : Hid (w.heap.size ≤ (wr.alloc (.cells #[.string ByteArray.empty] 9)).heap.size) := hide (by rw [World.size_alloc]; have := HX.out.size; omega)
        have AN := hide (At.newE (enc := eSt) (sz := 1) wr [] #[.string ByteArray.empty] 9 rfl)
        have OB := hide (HO.out.ext (Ext.alloc wr (.cells #[.string ByteArray.empty] 9)))
        have EB := hide (Ext.trans HX.out (Ext.alloc wr (.cells #[.string ByteArray.empty] 9)))
        clear hc HTK1
        go_wp2_with (at_builtin; refine wpList_append_at _ rfl (.tmp 16) (.tmp 17) 35 rfl w.heap.size 9 i0_ _ 16 Tryd.underlying35 hi0 hz0 hz1 hz2 rfl (by omega) len_eSt one_eSt _ _ (by rfl) OB.out (some ⟨wr.heap.size, 0, none⟩) 1 1 [[]] (by rfl) AN.out S1.out S2.out S3.out ?_; intro v7 w7 o7 g7 _ _; have O7 := hide o7; have E7 := hide (OB.out.below EB.out g7 (Nat.le_refl _)); clear o7 g7)
        have HL7 : Hid ((prtL (s.data.toList.take (k + 1))).length = m + 1) := hide (by rw [HV.out, List.length_append, HM.out]; rfl)
        have O7' : Hid (Own w7 w.heap.size 9 1 eSt v7 (prtL (s.data.toList.take (k + 1)))) := hide (by rw [HV.out]; exact O7.out)
        obtain ⟨A7, c7, hv7, _⟩ := O7'.out.at_ len_eSt
        rw [HL7.out] at hv7
        subst hv7
        obtain ⟨g7, hg7, _, _⟩ := O7'.out.where_ (by omega) HL7.out
        subst hg7
        exact ⟨⟨k + 1, g7, m + 1, c7, rfl, by omega, by omega, by go_num, HL7, O7', E7⟩, by simp [intOf]; omega⟩
      · have HV : Hid (prtL (s.data.toList.take (k + 1)) = (prtL (s.data.toList.take k)).set (m - 1) ((prtL (s.data.toList.take k)).getD (m - 1) [] ++ [s[k]])) := hide (by rw [HTK1.out, if_neg hc, HM.out])
        have d0 : (((s[k].toNat : Nat) : Int) == 47) = false := by
          rw [beq_eq_false_iff_ne]; intro h; apply hc; apply UInt8.toNat_inj.1; have : s[k].toNat = 47 := by omega
          rw [this]; rfl
        have HSB : Hid ((⟨((prtL (s.data.toList.take k)).getD (m - 1) []).toArray⟩ : ByteArray).size + (s.extract k (k + 1)).size ≤ 9223372036854775807) := hide (by
          have h1 : (s.extract k (k + 1)).size ≤ s.size := by rw [ByteArray.size_extract]; omega
          have h2 : ((prtL (s.data.toList.take k)).getD (m - 1) []).length ≤ s.size := by
            have h4 : m - 1 < (prtL (s.data.toList.take k)).length := by rw [HM.out]; omega
            have h3 := prtL_short (s.data.toList.take k) _ (List.getElem_mem h4)
            rw [List.length_take] at h3
            simp only [List.getD_eq_getElem?_getD, List.getElem?_eq_getElem h4, Option.getD_some]
            have h5 : s.data.toList.length = s.size := by simp
            omega
          show ((prtL (s.data.toList.take k)).getD (m - 1) []).toArray.size + _ ≤ _
          rw [List.size_toArray]; omega)
        have hcat := str_snoc ((prtL (s.data.toList.take k)).getD (m - 1) []) s k hlt
        have hadd : ∀ W, (Op.stringOp .add ⟨((prtL (s.data.toList.take k)).getD (m - 1) []).toArray⟩ (s.extract k (k + 1))).run Tryd.prog W = .ok (.string ⟨((prtL (s.data.toList.take k)).getD (m - 1) [] ++ [s[k]]).toArray⟩) W := fun W => by
          rw [run_string_add_sum W _ _ HSB.out, hcat]
        have a0 : wr.cell? ⟨g, m - 1, none⟩ = some (.string ⟨((prtL (s.data.toList.take k)).getD (m - 1) []).toArray⟩) := by
          have h1 := (HO.out.atS len_eSt).cellK (k := m - 1) (by omega) [] 0 _ rfl
          simpa using h1
        have f0 := HO.out.frozen1 (m - 1)
        have i2 : IntKind.i64.wrap ((m : Int) - 1) = (m : Int) - 1 := by rw [IntKind.wrap_i64]; omega
        have i3 : ((m : Int) - 1).toNat = m - 1 := by omega
        have i4 : 0 ≤ (m : Int) - 1 := by omega
        have i5 : (m : Int) - 1 < (m : Int) := by omega
        have i6 : 1 ≤ (m : Int) := by omega
        have i8 : IntKind.i64.wrap ((k : Int) + 1) = (k : Int) + 1 := by rw [IntKind.wrap_i64]; omega
        have i9 : ((k : Int) + 1).toNat = k + 1 := by omega
        have i10 : (k : Int) + 1 ≤ (s.size : Int) := by omega
        have i11 : (0 : Int) ≤ (k : Int) + 1 := by omega
        generalize (prtL (s.data.toList.take k)).getD (m - 1) [] = p at *
        clear hc HTK1 hcat HSB
        go_wp2_with fail
        have O7 : Hid (Own (wr.setCell ⟨g, m - 1, none⟩ (.string ⟨(p ++ [s[k]]).toArray⟩)).drew w.heap.size 9 1 eSt (.slice (some ⟨g, 0, none⟩) m cc) (prtL (s.data.toList.take (k + 1)))) := hide (by rw [HV.out]; exact (HO.out.set1 len_eSt (m - 1) _ _ rfl).ext (Ext.drew _))
        have E7 : Hid (Ext w (wr.setCell ⟨g, m - 1, none⟩ (.string ⟨(p ++ [s[k]]).toArray⟩)).drew) := hide (by
          have h5 := (HO.out.lt g rfl).1
          have h6 := HX.out
          exact ⟨h6.os, h6.tape, h6.output, by have := h6.size; simpa using this, fun b hb => (Below.heap_setCell wr ⟨g, m - 1, none⟩ _ b (by simp; omega)).trans (h6.block b hb)⟩)
        have HL7 : Hid ((prtL (s.data.toList.take (k + 1))).length = m) := hide (by rw [HV.out, List.length_set, HM.out])
        go_region
        refine gen_blk fun w7 h7 => ?_
        rw [← h7] at O7 E7
        clear h7
        go_wp2_with fail
        exact ⟨⟨k + 1, g, m, cc, rfl, hm, by omega, by go_num, HL7, O7, E7⟩, by simp [intOf]; omega⟩
    · obtain rfl : k = s.size := by omega
      rw [HEND.out] at HM HO
      have HA := hide (HO.out.atS len_eSt)
      clear hlt
      go_wp2_with fail
      go_ret
      exact ⟨some ⟨g, 0, none⟩, cc, by rw [HM.out]; rfl, by rw [HM.out]; exact HA.out, HX.out⟩
end Go.Proofs.YtoliplgadhdgbaaDoor
namespace Go.Proofs.YtoliplgadhdgbaaDoor
open Go.RowKit
def SzrStmt (s : Nat) : Prop := ∀ {l : List BoxT} {w : World} {G : Nat → Prop} {A : Option Addr} {n c : Nat}, SizeOf.sizeOf l ≤ s → BxsAt w G A n c l → sizeL l < 4611686018427387904 →
  Calls Tryd.prog 25 #[.slice A n c] w fun e w' => e = .returned (.int .i64 (sizeL l : Int)) ∧ ∃ m, w' = w.drewN m
set_option linter.unusedVariables false in
set_option maxRecDepth 100000 in
set_option maxHeartbeats 4000000 in
theorem szr_step (s : Nat) (ih : ∀ s', s' < s → SzrStmt s') : SzrStmt s := by
  intro l w G A n c hs hk hb
  have hkl := hk.len
  obtain ⟨ys, ha, hy, hh1, hk1⟩ := hk.parts
  have HA := hide ha
  have HH1 := hide hh1
  have HK1 := hide hk1
  have IH := hide ih
  have HY := hide hy
  have HKL := hide hkl
  have HSL := hide (fun (k : Nat) (h : k < l.length) => sizeL_take h)
  have HSE := hide (fun (k : Nat) => sizeL_le l k)
  have HSZ := hide (fun (k : Nat) (h : k < l.length) => (by have := kids_lt l[k]; have := elem_lt (List.getElem_mem h); omega : SizeOf.sizeOf l[k].kids < s))
  have HT : Hid (sizeL (l.take n) = sizeL l) := hide (by rw [← hkl, List.take_length])
  have hkb := ha.bound
  have HLB : Hid (∀ k, sizeL (l.take k) < 4611686018427387904) := hide (fun k => by have := HSE.out k; omega)
  clear ha hh1 hk1 ih hy hkl hk hs hb
  go_enter Tryd.func25, Tryd.ntmps25
  go_wp2_with fail
  go_loopw [3, 4] (fun r3 ri wr => ∃ k : Nat, k ≤ n ∧ ri = .int .i64 k ∧ r3 = .int .i64 ((sizeL (l.take k) : Nat) : Int) ∧ Hid (∃ m, wr = w.drewN m)) (fun _ ri _ => n - (intOf ri).toNat)
  case atStart => exact ⟨0, by omega, rfl, by simp [sizeL], hide ⟨0, rfl⟩⟩
  case round =>
    obtain ⟨k, hk, rfl, rfl, HD⟩ := hrel
    by_cases hlt : k < n
    · have hkl : k < l.length := by have := HKL.out; omega
      have hky : k < ys.length := by have := HY.out; omega
      have EX : Ext w wr := by obtain ⟨m, hm⟩ := HD.out; rw [hm]; exact Ext.drewN _ _
      have hat := HA.out.ext EX
      have hq := (HH1.out k _ _ (List.getElem?_eq_getElem hky) (List.getElem?_eq_getElem hkl)).ext EX
      have hr := (HK1.out k _ _ (List.getElem?_eq_getElem hky) (List.getElem?_eq_getElem hkl)).ext EX
      have hsz := HSZ.out k hkl
      have HSU := hide (HSL.out k hkl)
      have hle := HLB.out (k + 1)
      rw [HSU.out, sizeT_eq] at hle
      obtain ⟨b, o, rfl, _⟩ := hat.addr (by omega)
      have gy : ys.getD k default = ys[k] := by simp [List.getD, hky]
      have hdl := hq.2.2.1.len
      generalize ys[k] = z at *
      generalize l[k] = u at *
      have a1 : wr.cell? ⟨b, o + k * 4 + 1, none⟩ = some (.int .i64 z.form) := hat.cellK hlt default 1 _ (by rw [gy]; rfl)
      have a2 : wr.cell? ⟨b, o + k * 4 + 2, none⟩ = some (.slice z.dA z.dn z.dc) := hat.cellK hlt default 2 _ (by rw [gy]; rfl)
      have a3 : wr.cell? ⟨b, o + k * 4 + 3, none⟩ = some (.slice z.kA z.kn z.kc) := hat.cellK hlt default 3 _ (by rw [gy]; rfl)
      rw [hq.2.1] at a1
      rw [hdl] at hle
      have HC := hide (fun (a : Nat) => IH.out _ hsz (Nat.le_refl _) (hr.ext (Ext.drewN wr a)) (by omega))
      have HSU2 : Hid (sizeL (l.take (k + 1)) = sizeL (l.take k) + (8 + z.dn + (if u.form = 1 then 8 else 0) + sizeL u.kids)) := hide (by rw [HSU.out, sizeT_eq, hdl])
      generalize sizeL u.kids = su at *
      generalize sizeL (l.take k) = sl at *
      generalize u.form = uf at *
      have i1 : (k : Int) < (n : Int) := by omega
      have i0 : (0 : Int) ≤ (k : Int) := by omega
      have hle2 : sl + (8 + z.dn + su) < 4611686018427387904 := by omega
      have i7 : IntKind.i64.wrap (8 + (z.dn : Int)) = 8 + (z.dn : Int) := by rw [IntKind.wrap_i64]; omega
      have i8 : IntKind.i64.wrap (8 + (z.dn : Int) + (su : Int)) = 8 + (z.dn : Int) + (su : Int) := by rw [IntKind.wrap_i64]; omega
      have i9 : IntKind.i64.wrap ((sl : Int) + (8 + (z.dn : Int) + (su : Int))) = (sl : Int) + (8 + (z.dn : Int) + (su : Int)) := by rw [IntKind.wrap_i64]; omega
      clear hat hq hr hsz gy EX hky hkl hdl
      go_wp2_with fail
      go_quiet ((go_at_call 25; exact calls_left (HC.out _)))
      by_cases hf : uf = 1
      · have HE : Hid (((sizeL (l.take (k + 1)) : Nat) : Int) = (sl : Int) + (8 + (z.dn : Int) + (su : Int)) + 8) := hide (by rw [HSU2.out, if_pos hf]; omega)
        rw [if_pos hf] at hle
        have i10 : IntKind.i64.wrap ((sl : Int) + (8 + (z.dn : Int) + (su : Int)) + 8) = (sl : Int) + (8 + (z.dn : Int) + (su : Int)) + 8 := by rw [IntKind.wrap_i64]; omega
        subst hf
        go_wp2_with fail
        exact ⟨⟨k + 1, by omega, by go_num, int_val HE.out.symm, hide (by obtain ⟨m, hm⟩ := HD.out; exact ⟨_, by rw [hm, drewN_add]⟩)⟩, by simp [intOf]; omega⟩
      · have HE : Hid (((sizeL (l.take (k + 1)) : Nat) : Int) = (sl : Int) + (8 + (z.dn : Int) + (su : Int))) := hide (by rw [HSU2.out, if_neg hf]; omega)
        have d0 : (uf == 1) = false := by rw [beq_eq_false_iff_ne]; exact hf
        clear hf hle
        go_wp2_with fail
        exact ⟨⟨k + 1, by omega, by go_num, int_val HE.out.symm, hide (by obtain ⟨m, hm⟩ := HD.out; exact ⟨_, by rw [hm, drewN_add]⟩)⟩, by simp [intOf]; omega⟩
    · obtain rfl : k = n := by omega
      have HE : Hid (((sizeL (l.take k) : Nat) : Int) = (sizeL l : Int)) := hide (by rw [HT.out])
      clear hlt
      go_wp2_with fail
      go_ret
      exact ⟨ret_int HE.out, HD.out⟩
theorem szr_any (s : Nat) : SzrStmt s := by
  induction s using Nat.strongRecOn with
  | _ s ih => exact szr_step s ih
end Go.Proofs.YtoliplgadhdgbaaDoor
namespace Go.Proofs.YtoliplgadhdgbaaDoor
open Go.RowKit
def ChkStmt (s : Nat) : Prop := ∀ {l : List BoxT} {w W : World} {G : Nat → Prop} {A : Option Addr} {n c dep cnt : Nat}, SizeOf.sizeOf l ≤ s → bndL 140737488355328 l → BxsAt w G A n c l → Ext w W → dep ≤ 8 → cnt ≤ 2000 →
  Calls Tryd.prog 24 #[.slice A n c, .int .i64 (dep : Int), .int .i64 (cnt : Int)] W fun e w' => e = .returned (.tuple #[.int .i64 ((fauL l dep cnt).2 : Int), .int .i64 (fauL l dep cnt).1]) ∧ Ext W w'
theorem isKindRL (k : List UInt8) (hk : k.length ≤ maxLen) (w : World) : Calls Tryd.prog 19 #[.string ⟨k.toArray⟩] w fun e w' => e = .returned (.bool (isKindB k)) ∧ w = w' := by
  have := isKindR_any ⟨k.toArray⟩ w (by show k.toArray.size ≤ maxLen; simpa using hk)
  simpa using this
set_option linter.unusedVariables false in
set_option maxRecDepth 100000 in
set_option maxHeartbeats 8000000 in
theorem check_step (s : Nat) (ih : ∀ s', s' < s → ChkStmt s') : ChkStmt s := by
  intro l w W G A n c dep cnt hs hbn hk hW hdep hcnt
  have hkl := hk.len
  obtain ⟨ys, ha, hy, hh1, hk1⟩ := hk.parts
  have HA := hide ha
  have HH1 := hide hh1
  have HK1 := hide hk1
  have IH := hide ih
  have HY := hide hy
  have HKL := hide hkl
  have hb := ha.bound
  have HSZ := hide (fun (k : Nat) (h : k < l.length) => (by have := kids_lt l[k]; have := elem_lt (List.getElem_mem h); omega : SizeOf.sizeOf l[k].kids < s))
  have HBN := hide (fun (k : Nat) (h : k < l.length) => bndL_get hbn h)
  have HW := hide hW
  have HNV : Hid (∀ (z : Nat) (f : Int), Ending.returned (Value.tuple #[.int .i64 ((z : Int) + 1), .int .i64 f]) = .returned (.tuple #[.int .i64 ((z + 1 : Nat) : Int), .int .i64 f])) := hide (fun z f => by rw [show ((z + 1 : Nat) : Int) = (z : Int) + 1 by omega])
  clear ha hh1 hk1 ih hy hkl hk hs hW hbn
  go_enter Tryd.func24, Tryd.ntmps24
  go_wp2_with fail
  go_loopw [2, 8] (fun rc ri wr => ∃ k ck : Nat, k ≤ n ∧ ri = .int .i64 k ∧ rc = .int .i64 ck ∧ Hid (fauL l dep cnt = fauL (l.drop k) dep ck) ∧ Hid (ck ≤ 2000) ∧ Hid (Ext W wr)) (fun _ ri _ => n - (intOf ri).toNat)
  case atStart => exact ⟨0, cnt, by omega, rfl, rfl, hide (by rw [List.drop_zero]), hide hcnt, hide (Ext.refl _)⟩
  case round =>
    obtain ⟨k, ck, hk, rfl, rfl, HF, HCK, HT⟩ := hrel
    obtain ⟨wo, hwo⟩ : ∃ wo, wo = wr := ⟨_, rfl⟩
    subst hwo
    by_cases hlt : k < n
    · have hkl : k < l.length := by have := HKL.out; omega
      have hky : k < ys.length := by have := HY.out; omega
      have EX : Ext w wo := Ext.trans HW.out HT.out
      have hat := HA.out.ext EX
      have hq := (HH1.out k _ _ (List.getElem?_eq_getElem hky) (List.getElem?_eq_getElem hkl))
      have hr := (HK1.out k _ _ (List.getElem?_eq_getElem hky) (List.getElem?_eq_getElem hkl))
      have hsz := HSZ.out k hkl
      have hbk := HBN.out k hkl
      have hdr : l.drop k = l[k] :: l.drop (k + 1) := List.drop_eq_getElem_cons hkl
      have hem : (l.drop (k + 1)).isEmpty = decide (k + 1 = n) := by
        have h1 : (l.drop (k + 1)).length = n - (k + 1) := by rw [List.length_drop, HKL.out]
        cases hd : l.drop (k + 1) with
        | nil => rw [hd] at h1; simp at h1; simp; omega
        | cons x r => rw [hd] at h1; simp at h1; simp; omega
      have hf := HF.out
      rw [hdr, fauL_mk, hem] at hf
      obtain ⟨b, o, rfl, _⟩ := hat.addr (by omega)
      have gy : ys.getD k default = ys[k] := by simp [List.getD, hky]
      have hdl := hq.2.2.1.len
      have hkn := hr.len
      generalize ys[k] = z at *
      generalize l[k] = u at *
      have a0 : wo.cell? ⟨b, o + k * 4, none⟩ = some (.string ⟨z.kind.toArray⟩) := hat.cellK hlt default 0 _ (by rw [gy]; rfl)
      have a1 : wo.cell? ⟨b, o + k * 4 + 1, none⟩ = some (.int .i64 z.form) := hat.cellK hlt default 1 _ (by rw [gy]; rfl)
      have a2 : wo.cell? ⟨b, o + k * 4 + 2, none⟩ = some (.slice z.dA z.dn z.dc) := hat.cellK hlt default 2 _ (by rw [gy]; rfl)
      have a3 : wo.cell? ⟨b, o + k * 4 + 3, none⟩ = some (.slice z.kA z.kn z.kc) := hat.cellK hlt default 3 _ (by rw [gy]; rfl)
      rw [hq.1] at a0
      rw [hq.2.1] at a1
      have HCC := hide (fun (W' : World) (ck' : Nat) (h1 : Ext w W') (h3 : dep < 8) (h4 : ck' ≤ 2000) => IH.out _ hsz (Nat.le_refl _) hbk.2.2 hr h1 (dep := dep + 1) (by omega) h4)
      have HIK := hide (isKindRL u.kind (by have := hbk.1; unfold maxLen; omega))
      have HHK := hide (nests_any u.kind)
      have hdb : u.data.length ≤ 140737488355328 := hbk.2.1
      rw [hdl] at hdb
      have HDL := hide hdl
      have HKN := hide hkn
      have HFF := hide hf
      have hck := HCK.out
      clear hat hq hr hsz hdr hem hf gy EX hky hkl hdl hkn HF
      generalize u.kind = uk at *
      generalize u.form = uf at *
      generalize z.dA = dA at *
      generalize z.dn = dn at *
      generalize z.dc = dc at *
      generalize z.kA = kA at *
      generalize z.kn = kn at *
      generalize z.kc = kc at *
      have i1 : (k : Int) < (n : Int) := by omega
      have i0 : (0 : Int) ≤ (k : Int) := by omega
      have i8 : IntKind.i64.wrap ((k : Int) + 1) = (k : Int) + 1 := by rw [IntKind.wrap_i64]; omega
      have i9 : IntKind.i64.wrap ((ck : Int) + 1) = (ck : Int) + 1 := by rw [IntKind.wrap_i64]; omega
      have i7 : IntKind.i64.wrap ((dep : Int) + 1) = (dep : Int) + 1 := by rw [IntKind.wrap_i64]; omega
      go_upto_region 6 with (fail)
      refine gen_wpC fun w4 h4 => ?_
      obtain ⟨xb, hxb⟩ : ∃ xb, xb = wo.heap.size := ⟨_, rfl⟩
      rw [← hxb]
      have F4 : Hid (Ext W w4) := hide (by rw [h4]; exact Ext.trans HT.out (Ext.alloc _ _))
      have X4 : Hid (Blk w4 xb 39 #[.string ⟨uk.toArray⟩, .int .i64 uf, .slice dA dn dc, .slice kA kn kc]) := hide (by rw [h4, hxb]; exact Blk.new _ _ _)
      clear h4 hxb a0 a1 a2 a3 HT
      have x0 : w4.cell? ⟨xb, 0, none⟩ = some (.string ⟨uk.toArray⟩) := X4.out.cell 0
      have x1 : w4.cell? ⟨xb, 1, none⟩ = some (.int .i64 uf) := X4.out.cell 1
      have x2 : w4.cell? ⟨xb, 2, none⟩ = some (.slice dA dn dc) := X4.out.cell 2
      have x3 : w4.cell? ⟨xb, 3, none⟩ = some (.slice kA kn kc) := X4.out.cell 3
      by_cases hlg : 2000 < ck + 1 ∨ 8 ≤ dep
      · have HE : Hid (fauL l dep cnt = (2, ck + 1)) := hide (by have := HFF.out; rw [if_pos hlg] at this; exact this)
        by_cases h1 : 2000 < ck + 1
        · have g1 : (2000 : Int) < (ck : Int) + 1 := by omega
          clear hlg h1 HFF
          go_wp2_with fail
          refine bodyPost_ret (v := .tuple #[.int .i64 ((ck : Int) + 1), .int .i64 2]) (by simp [results, Tryd.results24, go_sem]) rfl ?_
          rw [HE.out]
          exact ⟨HNV.out _ _, F4.out⟩
        · have g1 : ¬ (2000 : Int) < (ck : Int) + 1 := by omega
          have g2 : (8 : Int) ≤ (dep : Int) := by omega
          clear hlg h1 HFF
          go_wp2_with fail
          refine bodyPost_ret (v := .tuple #[.int .i64 ((ck : Int) + 1), .int .i64 2]) (by simp [results, Tryd.results24, go_sem]) rfl ?_
          rw [HE.out]
          exact ⟨HNV.out _ _, F4.out⟩
      have hlg1 : ¬ (2000 : Int) < (ck : Int) + 1 := by omega
      have hlg2 : ¬ (8 : Int) ≤ (dep : Int) := by omega
      have hfe := HFF.out
      rw [if_neg hlg] at hfe
      have HFE := hide hfe
      have HEL : Hid (elB uk uf u.data u.kids.length (decide (k + 1 = n)) = if isKindB uk = false then 5 else if uf < 0 ∨ 2 < uf then 4 else if (hasKidsB uk = true ∧ 0 < dn) ∨ (hasKidsB uk = false ∧ 0 < kn) then 3 else if uf = 2 ∧ decide (k + 1 = n) = false then 8 else 0) := hide (by unfold elB; rw [HDL.out, HKN.out])
      generalize elB uk uf u.data u.kids.length (decide (k + 1 = n)) = el at *
      have HER : Hid (el ≠ 0 → fauL l dep cnt = (el, ck + 1)) := hide (fun h => by rw [HFE.out, if_pos h])
      have HEN : Hid (el = 0 → fauL l dep cnt = if (fauL u.kids (dep + 1) (ck + 1)).1 ≠ 0 then fauL u.kids (dep + 1) (ck + 1) else fauL (l.drop (k + 1)) dep (fauL u.kids (dep + 1) (ck + 1)).2) := hide (fun h => by rw [HFE.out, if_neg (by omega)])
      have hel := HEL.out
      clear hfe HFE HEL HFF hlg
      cases hik : isKindB uk with
      | false =>
        rw [hik, if_pos rfl] at hel
        rw [hik] at HIK
        have HE := hide (HER.out (by omega))
        rw [hel] at HE
        clear hik HER HEN hel
        go_wp2_with (first | ((go_at_call 19; with_reducible refine (HIK.out _).mono ?_); rintro e w' ⟨rfl, rfl⟩) | ((go_at_call 33; with_reducible refine (HHK.out _).mono ?_); rintro e w' ⟨rfl, rfl⟩))
        refine bodyPost_ret (v := .tuple #[.int .i64 ((ck : Int) + 1), .int .i64 5]) (by simp [results, Tryd.results24, go_sem]) rfl ?_
        rw [HE.out]
        exact ⟨HNV.out _ _, F4.out⟩
      | true =>
      rw [hik, if_neg (by simp)] at hel
      rw [hik] at HIK
      clear hik
      by_cases hfo : uf < 0 ∨ 2 < uf
      · rw [if_pos hfo] at hel
        have e0 : (uf != 0) = true := by simp; omega
        have e1 : (uf != 1) = true := by simp; omega
        have e2 : (uf != 2) = true := by simp; omega
        have HE := hide (HER.out (by omega))
        rw [hel] at HE
        clear HER HEN hel hfo
        go_wp2_with (first | ((go_at_call 19; with_reducible refine (HIK.out _).mono ?_); rintro e w' ⟨rfl, rfl⟩) | ((go_at_call 33; with_reducible refine (HHK.out _).mono ?_); rintro e w' ⟨rfl, rfl⟩))
        refine bodyPost_ret (v := .tuple #[.int .i64 ((ck : Int) + 1), .int .i64 4]) (by simp [results, Tryd.results24, go_sem]) rfl ?_
        rw [HE.out]
        exact ⟨HNV.out _ _, F4.out⟩
      rw [if_neg hfo] at hel
      go_upto_region 10 with (first | ((go_at_call 19; with_reducible refine (HIK.out _).mono ?_); rintro e w' ⟨rfl, rfl⟩) | ((go_at_call 33; with_reducible refine (HHK.out _).mono ?_); rintro e w' ⟨rfl, rfl⟩))
      go_cut [48] (fun sv wx => sv = .bool false ∧ w4 = wx)
      case first =>
        have hfo3 : uf = 0 ∨ uf = 1 ∨ uf = 2 := by omega
        clear hfo hel HER HEN
        rcases hfo3 with rfl | rfl | rfl
        all_goals
          first | (go_wp2_with fail; go_meet; exact ⟨rfl, rfl⟩) | (go_region; go_wp2_with fail; go_meet; exact ⟨rfl, rfl⟩)
      case rest =>
      obtain ⟨rfl, rfl⟩ := hcut
      clear hfo
      cases hhk : hasKidsB uk with
      | true =>
        rw [hhk] at HHK hel
        by_cases hd0 : 0 < dn
        · rw [if_pos (.inl ⟨rfl, hd0⟩)] at hel
          have g1 : (0 : Int) < (dn : Int) := by omega
          have HE := hide (HER.out (by omega))
          rw [hel] at HE
          clear HER HEN hel hhk
          go_wp2_with (first | ((go_at_call 19; with_reducible refine (HIK.out _).mono ?_); rintro e w' ⟨rfl, rfl⟩) | ((go_at_call 33; with_reducible refine (HHK.out _).mono ?_); rintro e w' ⟨rfl, rfl⟩))
          refine bodyPost_ret (v := .tuple #[.int .i64 ((ck : Int) + 1), .int .i64 3]) (by simp [results, Tryd.results24, go_sem]) rfl ?_
          rw [HE.out]
          exact ⟨HNV.out _ _, F4.out⟩
        · rw [if_neg (by rintro (h | h); exact hd0 h.2; cases h.1)] at hel
          obtain rfl : dn = 0 := by omega
          go_upto_region 14 with (first | ((go_at_call 19; with_reducible refine (HIK.out _).mono ?_); rintro e w' ⟨rfl, rfl⟩) | ((go_at_call 33; with_reducible refine (HHK.out _).mono ?_); rintro e w' ⟨rfl, rfl⟩))
          by_cases hop : uf = 2 ∧ decide (k + 1 = n) = false
          · rw [if_pos hop] at hel
            have HE := hide (HER.out (by omega))
            rw [hel] at HE
            obtain ⟨rfl, hl⟩ := hop
            have hl2 := of_decide_eq_false hl
            have g1 : (k : Int) + 1 < (n : Int) := by omega
            clear HER HEN hel hl
            go_wp2_with fail
            refine bodyPost_ret (v := .tuple #[.int .i64 ((ck : Int) + 1), .int .i64 8]) (by simp [results, Tryd.results24, go_sem]) rfl ?_
            rw [HE.out]
            exact ⟨HNV.out _ _, F4.out⟩
          rw [if_neg hop] at hel
          have HE := hide (HEN.out hel)
          clear HER HEN hel
          go_cut [81] (fun sv wx => sv = .bool false ∧ w4 = wx)
          case first =>
            by_cases hu : uf = 2
            · have g1 : ¬ (k : Int) + 1 < (n : Int) := by
                have : k + 1 = n := Classical.byContradiction fun hc => hop ⟨hu, decide_eq_false hc⟩
                omega
              subst hu
              clear hop
              first | (go_wp2_with fail; go_meet; exact ⟨rfl, rfl⟩) | (go_region; go_wp2_with fail; go_meet; exact ⟨rfl, rfl⟩)
            · have d0 : (uf == 2) = false := by rw [beq_eq_false_iff_ne]; exact hu
              clear hop hu
              first | (go_wp2_with fail; go_meet; exact ⟨rfl, rfl⟩) | (go_region; go_wp2_with fail; go_meet; exact ⟨rfl, rfl⟩)
          case rest =>
          obtain ⟨rfl, rfl⟩ := hcut
          have HC := hide (HCC.out w4 (ck + 1) (Ext.trans HW.out F4.out) (by omega) (by omega))
          rw [show ((dep + 1 : Nat) : Int) = (dep : Int) + 1 by omega, show ((ck + 1 : Nat) : Int) = (ck : Int) + 1 by omega] at HC
          have HCO := hide (fun m h => fauL_count u.kids (dep + 1) (ck + 1) m h (by omega))
          obtain ⟨rf, rc, hrr⟩ : ∃ rf rc, fauL u.kids (dep + 1) (ck + 1) = (rf, rc) := ⟨_, _, rfl⟩
          rw [hrr] at HC HE HCO
          have hrn := HE.out
          simp only at hrn
          have HE2 := hide hrn
          clear hop hrr HCC HE hrn
          go_wp2_with fail
          with_reducible refine HC.out.mono ?_
          rintro e w5 ⟨rfl, e5⟩
          have E5 := hide (Ext.trans F4.out e5)
          clear e5 HC
          by_cases hr0 : rf = 0
          · subst hr0
            have hq2 := HE2.out
            rw [if_neg (by simp)] at hq2
            have HE3 := hide hq2
            have HRC := hide (HCO.out rc rfl)
            clear hq2 HE2
            go_wp2_with fail
            exact ⟨⟨k + 1, rc, by omega, by go_num, rfl, HE3, HRC, E5⟩, by simp [intOf]; omega⟩
          · have hq2 := HE2.out
            rw [if_pos hr0] at hq2
            have HE3 := hide hq2
            have d0 : (rf != 0) = true := by simp [hr0]
            clear hq2 HE2 hr0
            go_wp2_with fail
            refine bodyPost_ret (v := .tuple #[.int .i64 (rc : Int), .int .i64 rf]) (by simp [results, Tryd.results24, go_sem]) rfl ?_
            rw [HE3.out]
            exact ⟨rfl, E5.out⟩
      | false =>
        rw [hhk] at HHK hel
        by_cases hd0 : 0 < kn
        · rw [if_pos (.inr ⟨rfl, hd0⟩)] at hel
          have g1 : (0 : Int) < (kn : Int) := by omega
          have HE := hide (HER.out (by omega))
          rw [hel] at HE
          clear HER HEN hel hhk
          go_wp2_with (first | ((go_at_call 19; with_reducible refine (HIK.out _).mono ?_); rintro e w' ⟨rfl, rfl⟩) | ((go_at_call 33; with_reducible refine (HHK.out _).mono ?_); rintro e w' ⟨rfl, rfl⟩))
          refine bodyPost_ret (v := .tuple #[.int .i64 ((ck : Int) + 1), .int .i64 3]) (by simp [results, Tryd.results24, go_sem]) rfl ?_
          rw [HE.out]
          exact ⟨HNV.out _ _, F4.out⟩
        · rw [if_neg (by rintro (h | h); cases h.1; exact hd0 h.2)] at hel
          obtain rfl : kn = 0 := by omega
          go_upto_region 14 with (first | ((go_at_call 19; with_reducible refine (HIK.out _).mono ?_); rintro e w' ⟨rfl, rfl⟩) | ((go_at_call 33; with_reducible refine (HHK.out _).mono ?_); rintro e w' ⟨rfl, rfl⟩))
          by_cases hop : uf = 2 ∧ decide (k + 1 = n) = false
          · rw [if_pos hop] at hel
            have HE := hide (HER.out (by omega))
            rw [hel] at HE
            obtain ⟨rfl, hl⟩ := hop
            have hl2 := of_decide_eq_false hl
            have g1 : (k : Int) + 1 < (n : Int) := by omega
            clear HER HEN hel hl
            go_wp2_with fail
            refine bodyPost_ret (v := .tuple #[.int .i64 ((ck : Int) + 1), .int .i64 8]) (by simp [results, Tryd.results24, go_sem]) rfl ?_
            rw [HE.out]
            exact ⟨HNV.out _ _, F4.out⟩
          rw [if_neg hop] at hel
          have HE := hide (HEN.out hel)
          clear HER HEN hel
          go_cut [81] (fun sv wx => sv = .bool false ∧ w4 = wx)
          case first =>
            by_cases hu : uf = 2
            · have g1 : ¬ (k : Int) + 1 < (n : Int) := by
                have : k + 1 = n := Classical.byContradiction fun hc => hop ⟨hu, decide_eq_false hc⟩
                omega
              subst hu
              clear hop
              first | (go_wp2_with fail; go_meet; exact ⟨rfl, rfl⟩) | (go_region; go_wp2_with fail; go_meet; exact ⟨rfl, rfl⟩)
            · have d0 : (uf == 2) = false := by rw [beq_eq_false_iff_ne]; exact hu
              clear hop hu
              first | (go_wp2_with fail; go_meet; exact ⟨rfl, rfl⟩) | (go_region; go_wp2_with fail; go_meet; exact ⟨rfl, rfl⟩)
          case rest =>
          obtain ⟨rfl, rfl⟩ := hcut
          have HC := hide (HCC.out w4 (ck + 1) (Ext.trans HW.out F4.out) (by omega) (by omega))
          rw [show ((dep + 1 : Nat) : Int) = (dep : Int) + 1 by omega, show ((ck + 1 : Nat) : Int) = (ck : Int) + 1 by omega] at HC
          have HCO := hide (fun m h => fauL_count u.kids (dep + 1) (ck + 1) m h (by omega))
          obtain ⟨rf, rc, hrr⟩ : ∃ rf rc, fauL u.kids (dep + 1) (ck + 1) = (rf, rc) := ⟨_, _, rfl⟩
          rw [hrr] at HC HE HCO
          have hrn := HE.out
          simp only at hrn
          have HE2 := hide hrn
          clear hop hrr HCC HE hrn
          go_wp2_with fail
          with_reducible refine HC.out.mono ?_
          rintro e w5 ⟨rfl, e5⟩
          have E5 := hide (Ext.trans F4.out e5)
          clear e5 HC
          by_cases hr0 : rf = 0
          · subst hr0
            have hq2 := HE2.out
            rw [if_neg (by simp)] at hq2
            have HE3 := hide hq2
            have HRC := hide (HCO.out rc rfl)
            clear hq2 HE2
            go_wp2_with fail
            exact ⟨⟨k + 1, rc, by omega, by go_num, rfl, HE3, HRC, E5⟩, by simp [intOf]; omega⟩
          · have hq2 := HE2.out
            rw [if_pos hr0] at hq2
            have HE3 := hide hq2
            have d0 : (rf != 0) = true := by simp [hr0]
            clear hq2 HE2 hr0
            go_wp2_with fail
            refine bodyPost_ret (v := .tuple #[.int .i64 (rc : Int), .int .i64 rf]) (by simp [results, Tryd.results24, go_sem]) rfl ?_
            rw [HE3.out]
            exact ⟨rfl, E5.out⟩
    · obtain rfl : k = n := by omega
      have HE : Hid (fauL l dep cnt = (0, ck)) := hide (by rw [HF.out, ← HKL.out, List.drop_length, fauL])
      clear hlt
      go_wp2_with fail
      refine bodyPost_ret (v := .tuple #[.int .i64 (ck : Int), .int .i64 0]) (by simp [results, Tryd.results24, go_sem]) rfl ?_
      rw [HE.out]
      exact ⟨rfl, HT.out⟩
theorem check_any (s : Nat) : ChkStmt s := by
  induction s using Nat.strongRecOn with
  | _ s ih => exact check_step s ih
set_option linter.unusedVariables false in
set_option maxRecDepth 100000 in
set_option maxHeartbeats 4000000 in
theorem checkBoxes_any {l : List BoxT} {w : World} {G : Nat → Prop} {A : Option Addr} {n c : Nat} (h : BxsAt w G A n c l) (hb : bndL 140737488355328 l) :
    Calls Tryd.prog 13 #[.slice A n c] w fun e w' => e = .returned (.int .i64 (bfF l)) ∧ Ext w w' := by
  have HF : Hid (Calls Tryd.prog 24 #[.slice A n c, .int .i64 0, .int .i64 0] w fun e w' => e = .returned (.tuple #[.int .i64 ((fauL l 0 0).2 : Int), .int .i64 (fauL l 0 0).1]) ∧ Ext w w') :=
    hide (check_any _ (dep := 0) (cnt := 0) (Nat.le_refl _) hb h (Ext.refl _) (by omega) (by omega))
  have HS := hide (fun (W : World) (hW : Ext w W) (hf : (fauL l 0 0).1 = 0) => szr_any _ (Nat.le_refl _) (h.ext hW) (by have := size_room hb hf; omega))
  have HV : Hid (bfF l = if (fauL l 0 0).1 ≠ 0 then (fauL l 0 0).1 else if 1000000 < sizeL l then 2 else 0) := hide rfl
  clear h hb
  go_enter Tryd.func13, Tryd.ntmps13
  go_wp2_with fail
  with_reducible refine HF.out.mono ?_
  rintro e w1 ⟨rfl, e1⟩
  have E1 := hide e1
  clear e1 HF
  generalize (fauL l 0 0).1 = fz at *
  by_cases hz : fz = 0
  · have HC := hide (HS.out _ E1.out hz)
    subst hz
    have HR : Hid (bfF l = if 1000000 < sizeL l then 2 else 0) := hide (by rw [HV.out, if_neg (by simp)])
    clear HS HV
    generalize sizeL l = S at *
    have HQ := hide HR.out
    go_wp2_with fail
    with_reducible refine HC.out.mono ?_
    rintro e w2 ⟨rfl, m2, hm2⟩
    have E2 : Hid (Ext w w2) := hide (by rw [hm2]; exact Ext.trans E1.out (Ext.drewN _ _))
    clear hm2
    by_cases hgt : 1000000 < S
    · have d1 : (1000000 : Int) < (S : Int) := by omega
      have HW2 : Hid (bfF l = 2) := hide (by rw [HR.out, if_pos hgt])
      clear hgt
      go_wp2_with fail
      go_ret
      exact ⟨ret_int HW2.out.symm, E2.out⟩
    · have d1 : ¬ (1000000 : Int) < (S : Int) := by omega
      have HW2 : Hid (bfF l = 0) := hide (by rw [HR.out, if_neg hgt])
      clear hgt
      go_wp2_with fail
      go_ret
      exact ⟨ret_int HW2.out.symm, E2.out⟩
  · have HR : Hid (bfF l = fz) := hide (by rw [HV.out, if_pos hz])
    have d0 : (fz != 0) = true := by simp [hz]
    clear HS HV
    go_wp2_with fail
    go_ret
    exact ⟨ret_int HR.out.symm, E1.out⟩
end Go.Proofs.YtoliplgadhdgbaaDoor
namespace Go.Proofs.YtoliplgadhdgbaaDoor
open Go.RowKit
theorem wpList_append_str {P : Program} {w : World} {ops : Array Oper} {rest : List Oper} {o : Oper} {a : Act} {Q : Exit → Act → World → Prop} (hgd : o.guard = none) (sl x : Operand) (t u : TypeId)
    (ho : o.op = .call { callee := .builtin .append, args := #[sl, x], argTypes := #[t, u] })
    (base : Nat) (e : TypeId) (i : TypeInfo) (ht : P.underlying t = some (.slice e)) (hu : P.underlying u = some .string) (hi : P.info? e = some i) (hz : i.zero = some (.int .u8 0))
    (hsize : i.size = 1) (hby : i.bytes = 1)
    (v : Value) (xs : List UInt8) (hs : a.eval sl = v) (hown : Own w base e 1 e8 v xs) (k : List UInt8) (hx : a.eval x = .string ⟨k.toArray⟩)
    (h63 : xs.length + k.length ≤ maxLen) (hbytes : xs.length + k.length ≤ 140737488355328) (hbase : base ≤ w.heap.size)
    (h : ∀ v' w', Own w' base e 1 e8 v' (xs ++ k) → w.grownBy w' v.ownBlock → (v'.ownBlock = v.ownBlock ∨ ∃ g, v'.ownBlock = some g ∧ w.heap.size ≤ g) → wpList P ops Q rest (a.put o.dst v') w') : wpList P ops Q (o :: rest) a w :=
  wpList_plain hgd fun K hK => by
    have h1 := step_append_str (P := P) (w := w) (ops := ops) (o := o) (a := a) (K := K) (Q := Q) (E := True) hgd sl x t u ho base e i ht hu hi hz hsize hby v xs hs hown k hx h63 hbytes hbase (fun v' w' a1 a2 a3 => hK _ _ (h v' w' a1 a2 a3))
    rwa [if_pos (by simp [Region.wanted, hgd])] at h1
theorem wrtP {w : World} {x : Int} (many : Nat) (k : Int) (hk : (many : Int) = k) (hm : many ≤ 8) (q : Nat) (hq : u64n x = q) :
    Calls Tryd.prog 26 #[.int .i64 x, .int .i64 k] w fun e w' => ∃ g, e = .returned (.slice (some ⟨g, 0, none⟩) many many) ∧ At w' 1 e8 (some ⟨g, 0, none⟩) many many (beN many q) ∧ Ext w w' := by
  rw [← hk, ← hq]
  exact (written_any hm).mono fun e w' ⟨g, h1, h2, h3⟩ => ⟨g, h1, h2.atS len_e8, h3⟩
/-- What is known of each of some boxes that are right. -/
theorem fau_get : ∀ {l : List BoxT} {dep c m : Nat} (_ : fauL l dep c = (0, m)) {k : Nat} (hk : k < l.length), l[k].kind.length = 4 ∧ (l[k].form = 0 ∨ l[k].form = 1 ∨ l[k].form = 2) ∧ ∃ dep' c' m', fauL l[k].kids dep' c' = (0, m')
  | [], _, _, _, _, _, hk => absurd hk (Nat.not_lt_zero _)
  | .mk a f d l :: r, dep, c, m, h, 0, _ => by
    obtain ⟨_, h2, m', h3, _⟩ := fauL_ok h
    exact ⟨kind_len (elB_ok h2).1, (elB_ok h2).2.1, _, _, m', h3⟩
  | .mk a f d l :: r, dep, c, m, h, k + 1, hk => by
    obtain ⟨_, _, m', _, h4⟩ := fauL_ok h
    exact fau_get (l := r) h4 (k := k) (by simpa using hk)
theorem BxsAt.one {w : World} {G : Nat → Prop} {b o n c : Nat} {l : List BoxT} (h : BxsAt w G (some ⟨b, o, none⟩) n c l) {k : Nat} (hk : k < l.length) : BxsAt w G (some ⟨b, o + k * 4, none⟩) 1 (c - k) [l[k]] := by
  have hl := h.len
  cases h with
  | mk hs l h hg hl2 h1 h2 =>
    have hn := h.len
    have hc := h.le
    have hkh : k < hs.length := by omega
    have ha := (h.cutAt (k := k) (by omega) (by omega)).upto (k := 1) (by omega)
    rw [show (hs.drop k).take 1 = [hs[k]] by rw [List.drop_eq_getElem_cons hkh]; rfl] at ha
    have hG : InG G (some ⟨b, o + k * 4, none⟩) := fun a e => by injection e with e; subst e; exact hg ⟨b, o, none⟩ rfl
    refine .mk [hs[k]] [l[k]] ha hG rfl (fun i y x hy hx => ?_) (fun i y x hy hx => ?_)
    · match i, hy, hx with
      | 0, hy, hx =>
        simp at hy hx; subst hy hx
        exact h1 k _ _ (List.getElem?_eq_getElem hkh) (List.getElem?_eq_getElem hk)
      | i + 1, hy, hx => simp at hy
    · match i, hy, hx with
      | 0, hy, hx =>
        simp at hy hx; subst hy hx
        exact h2 k _ _ (List.getElem?_eq_getElem hkh) (List.getElem?_eq_getElem hk)
      | i + 1, hy, hx => simp at hy
def NewBy (w : World) (l : List UInt8) (e : Ending) (w' : World) : Prop := ∃ v, e = .returned v ∧ Own w' w.heap.size 5 1 e8 v l ∧ Ext w w'
def ByrStmt (s : Nat) : Prop := ∀ {l : List BoxT} {w W : World} {G : Nat → Prop} {A : Option Addr} {n c : Nat}, SizeOf.sizeOf l ≤ s → BxsAt w G A n c l → Ext w W → (∃ dep c0 m, fauL l dep c0 = (0, m)) → sizeL l ≤ 1000000000 →
  Calls Tryd.prog 14 #[.slice A n c] W (NewBy W (bytL l))
set_option linter.unusedVariables false in
set_option linter.unusedSimpArgs false in
set_option maxRecDepth 100000 in
set_option maxHeartbeats 8000000 in
theorem byr_step (s : Nat) (ih : ∀ s', s' < s → ByrStmt s') : ByrStmt s := by
  intro l w' w G A n c hs hk hW hfa hb
  replace hk := hk.ext hW
  have hkl := hk.len
  obtain ⟨ys, ha, hy, hh1, hk1⟩ := hk.parts
  have HBX1 := hide (fun (b o k : Nat) (hA : A = some ⟨b, o, none⟩) (h : k < l.length) => (by subst hA; exact hk.one h : BxsAt w G (some ⟨b, o + k * 4, none⟩) 1 (c - k) [l[k]]))
  have hlec := ha.le
  have HA := hide ha
  have HH1 := hide hh1
  have HK1 := hide hk1
  have IH := hide ih
  have HY := hide hy
  have HKL := hide hkl
  have HSL := hide (fun (k : Nat) (h : k < l.length) => sizeL_take h)
  have HSE := hide (fun (k : Nat) => sizeL_le l k)
  have HSZ := hide (fun (k : Nat) (h : k < l.length) => (by have := kids_lt l[k]; have := elem_lt (List.getElem_mem h); omega : SizeOf.sizeOf l[k].kids < s))
  have HFG : Hid (∀ (k : Nat) (h : k < l.length), l[k].kind.length = 4 ∧ (l[k].form = 0 ∨ l[k].form = 1 ∨ l[k].form = 2) ∧ ∃ dep' c' m', fauL l[k].kids dep' c' = (0, m')) := hide (fun k h => by obtain ⟨dep, c0, m, hf⟩ := hfa; exact fau_get hf h)
  have HBT : Hid (∀ k, (bytL (l.take k)).length ≤ sizeL l) := hide (fun k => by obtain ⟨dep, c0, m, hf⟩ := hfa; have h1 := bytL_len l _ _ _ hf; have h2 := bytL_le l k; omega)
  have HBS : Hid (∀ (k : Nat) (h : k < l.length), (bytL (l.take k)).length + sizeT l[k] ≤ 1000000000) := hide (fun k h => by
    obtain ⟨dep, c0, m, hf⟩ := hfa
    have h1 := bytL_len l _ _ _ hf
    have h2 := bytL_le l (k + 1)
    have h3 : (bytL (l.take k)).length = sizeL (l.take k) := by
      have : ∀ (l : List BoxT) (dep c m : Nat), fauL l dep c = (0, m) → ∀ k, (bytL (l.take k)).length = sizeL (l.take k) := by
        intro l
        induction l with
        | nil => intro _ _ _ _ k; simp [bytL, sizeL]
        | cons x r ih =>
          intro dep c m hf k
          cases k with
          | zero => simp [bytL, sizeL]
          | succ k =>
            obtain ⟨kk, f, d, q⟩ := x
            obtain ⟨_, g2, m', g3, g4⟩ := fauL_ok hf
            have j1 := bytL_len q _ _ _ g3
            have j2 := ih _ _ _ g4 k
            rw [List.take_succ_cons, bytL, bytT, sizeL, sizeT, List.length_append, List.length_append, List.length_append, headB_len (kind_len (elB_ok g2).1), j1, j2]
            omega
      exact this l _ _ _ hf k
    have h4 := sizeL_take h
    have h5 := sizeL_le l (k + 1)
    omega)
  have HT : Hid (bytL (l.take n) = bytL l) := hide (by rw [← hkl, List.take_length])
  have HBK := hide (fun (k : Nat) (h : k < l.length) => bytL_take h)
  have hkb := ha.bound
  clear ha hh1 hk1 ih hy hkl hk hs hb hfa hW
  obtain ⟨i0_, hi0, hz0, hz1, hz2⟩ := info_parts Tryd.info5
  go_enter Tryd.func14, Tryd.ntmps14
  go_wp2_with fail
  go_loopw [3, 4] (fun r3 ri wr => ∃ (k : Nat) (q3 : Value), q3 = r3 ∧ k ≤ n ∧ ri = .int .i64 k ∧ Hid (Own wr w.heap.size 5 1 e8 q3 (bytL (l.take k))) ∧ Hid (Ext w wr)) (fun _ ri _ => n - (intOf ri).toNat)
  case atStart => exact ⟨0, _, rfl, by omega, rfl, hide (by rw [List.take_zero, bytL]; exact Own.nil _ _ _ _ _), hide (Ext.refl _)⟩
  case round =>
    obtain ⟨k, q3, rfl, hk, rfl, HO, HX⟩ := hrel
    obtain ⟨wo, hwo⟩ : ∃ wo, wo = wr := ⟨_, rfl⟩
    subst hwo
    by_cases hlt : k < n
    · have hkl : k < l.length := by have := HKL.out; omega
      have hky : k < ys.length := by have := HY.out; omega
      have hat := HA.out.ext HX.out
      have hq := (HH1.out k _ _ (List.getElem?_eq_getElem hky) (List.getElem?_eq_getElem hkl))
      have hr := (HK1.out k _ _ (List.getElem?_eq_getElem hky) (List.getElem?_eq_getElem hkl))
      have hsz := HSZ.out k hkl
      have hfg := HFG.out k hkl
      have hbs := HBS.out k hkl
      have HBK1 := hide (HBK.out k hkl)
      obtain ⟨b, o, rfl, _⟩ := hat.addr (by omega)
      have HON := hide (HBX1.out b o k rfl hkl)
      have gy : ys.getD k default = ys[k] := by simp [List.getD, hky]
      have hdl := hq.2.2.1.len
      generalize ys[k] = z at *
      generalize l[k] = u at *
      have a0 : wo.cell? ⟨b, o + k * 4, none⟩ = some (.string ⟨z.kind.toArray⟩) := hat.cellK hlt default 0 _ (by rw [gy]; rfl)
      have a1 : wo.cell? ⟨b, o + k * 4 + 1, none⟩ = some (.int .i64 z.form) := hat.cellK hlt default 1 _ (by rw [gy]; rfl)
      have a2 : wo.cell? ⟨b, o + k * 4 + 2, none⟩ = some (.slice z.dA z.dn z.dc) := hat.cellK hlt default 2 _ (by rw [gy]; rfl)
      have a3 : wo.cell? ⟨b, o + k * 4 + 3, none⟩ = some (.slice z.kA z.kn z.kc) := hat.cellK hlt default 3 _ (by rw [gy]; rfl)
      rw [hq.1] at a0
      rw [hq.2.1] at a1
      have HDA := hide (fun (W : World) (hW : Ext w W) => hq.2.2.1.ext hW)
      have HKC := hide (fun (W : World) (hW : Ext w W) => IH.out _ hsz (Nat.le_refl _) hr hW hfg.2.2 (by have := sizeT_eq u; omega))
      have HZC := hide (fun (W : World) (hW : Ext w W) => szr_any _ (Nat.le_refl _) (HON.out.ext hW) (by rw [sizeL, sizeL]; omega))
      have hso : sizeL [u] = sizeT u := by rw [sizeL, sizeL, Nat.add_zero]
      rw [hso] at HZC
      have HDL := hide hdl
      have HKL4 := hide hfg.1
      have hfo := hfg.2.1
      have hbe := bytT_eq u
      rw [hbe] at HBK1
      have HSE1 := hide (sizeT_eq u)
      have hub : u64n ((sizeT u : Nat) : Int) = sizeT u := by rw [u64n_pos (by omega) (by omega)]; omega
      have HW4 := hide (fun (W : World) => wrtP (w := W) (x := ((sizeT u : Nat) : Int)) 4 4 rfl (by omega) _ hub)
      have HW8 := hide (fun (W : World) => wrtP (w := W) (x := ((sizeT u : Nat) : Int)) 8 8 rfl (by omega) _ hub)
      have HW1 := hide (fun (W : World) => wrtP (w := W) (x := 1) 4 4 rfl (by omega) 1 (by rw [u64n_pos (by omega) (by omega)]; rfl))
      have HW0 := hide (fun (W : World) => wrtP (w := W) (x := 0) 4 4 rfl (by omega) 0 (by rw [u64n_pos (by omega) (by omega)]; rfl))
      have HLN : Hid ((bytL (l.take k)).length + (8 + (if u.form = 1 then 8 else 0) + u.data.length + sizeL u.kids) ≤ 1000000000) := hide (by have := sizeT_eq u; omega)
      have HAC : Hid ((bytL (l.take k)).length ≤ 1000000000) := hide (by omega)
      have HKB : Hid ((bytL u.kids).length = sizeL u.kids) := hide (by obtain ⟨_, _, _, hf⟩ := hfg.2.2; exact bytL_len _ _ _ _ hf)
      have HHB : Hid (headB u.kind u.form (sizeT u) = beN 4 (firstN u.form (sizeT u)) ++ u.kind ++ (if u.form = 1 then beN 8 (sizeT u) else [])) := hide rfl
      clear hat hq hr hsz gy hky hkl hdl hfg hbs hbe hub HON hso
      generalize bytL (l.take k) = acc at *
      generalize sizeT u = S at *
      generalize u.kind = uk at *
      generalize u.form = uf at *
      generalize z.dA = dA at *
      generalize z.dn = dn at *
      generalize z.dc = dc at *
      generalize z.kA = kA at *
      generalize z.kn = kn at *
      generalize z.kc = kc at *
      have i1 : (k : Int) < (n : Int) := by omega
      have i0 : (0 : Int) ≤ (k : Int) := by omega
      have i8 : IntKind.i64.wrap ((k : Int) + 1) = (k : Int) + 1 := by rw [IntKind.wrap_i64]; omega
      go_upto_region 6 with (fail)
      refine gen_wpC fun w4 h4 => ?_
      obtain ⟨xb, hxb⟩ : ∃ xb, xb = wo.heap.size := ⟨_, rfl⟩
      rw [← hxb]
      have F4 : Hid (Ext w w4) := hide (by rw [h4]; exact Ext.trans HX.out (Ext.alloc _ _))
      have X4 : Hid (Blk w4 xb 39 #[.string ⟨uk.toArray⟩, .int .i64 uf, .slice dA dn dc, .slice kA kn kc]) := hide (by rw [h4, hxb]; exact Blk.new _ _ _)
      have O4 := hide (by rw [h4]; exact HO.out.ext (Ext.alloc _ _) : Own w4 w.heap.size 5 1 e8 q3 acc)
      have HFR : Hid (∀ b, q3.ownBlock = some b → w.heap.size ≤ b ∧ b < xb) := hide (fun b hb => by have := HO.out.lt b hb; rw [hxb]; exact this)
      clear h4 hxb a0 a1 a2 a3 HX HO
      have HEX : Hid (∀ X r, Grw w4 X q3 r → Ext w X) := hide (fun X r g => Ext.gr F4.out g.grown (fun b hb => (HFR.out b hb).1))
      have HBX : Hid (∀ X r, Grw w4 X q3 r → Blk X xb 39 #[.string ⟨uk.toArray⟩, .int .i64 uf, .slice dA dn dc, .slice kA kn kc]) := hide (fun X r g => (g.grown.block _ X4.out.lt (fun e => by have := (HFR.out _ e.symm).2; omega)).trans X4.out)
      have HSX : Hid (∀ X r, Grw w4 X q3 r → w.heap.size ≤ X.heap.size) := hide (fun X r g => (HEX.out X r g).size)
      clear F4 X4 HFR
      have G4 := hide (Grw.refl w4 q3)
      have HSN := hide (HBX.out _ _ G4.out)
      have x1 : w4.cell? ⟨xb, 1, none⟩ = some (.int .i64 uf) := HSN.out.cell 1
      go_wp2_with fail
      with_reducible refine (HZC.out _ (HEX.out _ _ G4.out)).mono ?_
      rintro e w5 ⟨rfl, m5, hm5⟩
      have G5 := hide (G4.out.ext (by rw [hm5]; exact Ext.drewN _ _ : Ext w4 w5))
      have O5 := hide (O4.out.ext (by rw [hm5]; exact Ext.drewN _ _ : Ext w4 w5))
      clear hm5 x1 HSN G4 O4 HZC
      have x1 : w5.cell? ⟨xb, 1, none⟩ = some (.int .i64 uf) := (HBX.out _ _ G5.out).cell 1
      go_upto_block 2 with (fail)
      go_cut [3] (fun r3 wx => ∃ q : Value, q = r3 ∧ Hid (Own wx w.heap.size 5 1 e8 q (acc ++ headB uk uf S)) ∧ Hid (Grw w4 wx q3 q))
      case first =>
        clear x1
        rcases hfo with rfl | rfl | rfl
        · have HV : Hid (acc ++ headB uk 0 S = acc ++ beN 4 S ++ uk) := hide (by rw [HHB.out]; simp [firstN])
          go_wp2_with fail
          with_reducible refine (HW4.out _).mono ?_
          rintro e wm ⟨gm, rfl, om, em⟩
          have AM := hide om
          have OB := hide (O5.out.ext em)
          have GB := hide (G5.out.ext em)
          have S1 : Hid ((acc).length + 4 ≤ maxLen) := hide (by have h1 := HAC.out; have h2 := HKL4.out; (try simp only [List.length_append, beN_len]); unfold maxLen; omega)
          have S2 : Hid (((acc).length + 4) * 1 ≤ 140737488355328) := hide (by have h1 := HAC.out; have h2 := HKL4.out; (try simp only [List.length_append, beN_len]); omega)
          have S3 : Hid (w.heap.size ≤ wm.heap.size) := hide (HSX.out _ _ GB.out)
          clear om em
          go_upto_region 10 with (at_builtin; refine wpList_append_at _ rfl (.tmp 27) (.tmp 29) 23 rfl w.heap.size 5 i0_ _ 1 Tryd.underlying23 hi0 hz0 hz1 hz2 rfl (by omega) len_e8 one_e8 _ _ (by rfl) OB.out (some ⟨gm, 0, none⟩) 4 4 _ (by rfl) AM.out S1.out S2.out S3.out ?_; intro v7 w7 o7 g7 _ r7; have O6 := hide o7; have G6 := hide (GB.out.trans (Grw.of g7 r7)); clear o7 g7 r7)
          clear OB GB AM S1 S2 S3
          have x0 : w7.cell? ⟨xb, 0, none⟩ = some (.string ⟨uk.toArray⟩) := (HBX.out _ _ G6.out).cell 0
          have S1 : Hid ((acc ++ beN 4 S).length + uk.length ≤ maxLen) := hide (by have h1 := HAC.out; have h2 := HKL4.out; (try simp only [List.length_append, beN_len]); unfold maxLen; omega)
          have S2 : Hid ((acc ++ beN 4 S).length + uk.length ≤ 140737488355328) := hide (by have h1 := HAC.out; have h2 := HKL4.out; (try simp only [List.length_append, beN_len]); omega)
          have S3 : Hid (w.heap.size ≤ w7.heap.size) := hide (HSX.out _ _ G6.out)
          go_wp2_with (at_builtin; refine wpList_append_str rfl (.tmp 31) (.tmp 33) 23 9 rfl w.heap.size 5 i0_ Tryd.underlying23 Tryd.underlying9 hi0 hz0 hz1 hz2 _ _ (by rfl) O6.out uk (by rfl) S1.out S2.out S3.out ?_; intro v7 w9 o7 g7 r7; have O7 := hide o7; have G7 := hide (G6.out.trans ⟨g7, r7⟩); clear o7 g7 r7)
          clear x0 S1 S2 S3
          go_meet
          exact ⟨_, rfl, hide (by rw [HV.out]; exact O7.out), G7⟩
        · have HV : Hid (acc ++ headB uk 1 S = acc ++ beN 4 1 ++ uk ++ beN 8 S) := hide (by rw [HHB.out]; simp [firstN])
          go_wp2_with fail
          with_reducible refine (HW1.out _).mono ?_
          rintro e wm ⟨gm, rfl, om, em⟩
          have AM := hide om
          have OB := hide (O5.out.ext em)
          have GB := hide (G5.out.ext em)
          have S1 : Hid ((acc).length + 4 ≤ maxLen) := hide (by have h1 := HAC.out; have h2 := HKL4.out; (try simp only [List.length_append, beN_len]); unfold maxLen; omega)
          have S2 : Hid (((acc).length + 4) * 1 ≤ 140737488355328) := hide (by have h1 := HAC.out; have h2 := HKL4.out; (try simp only [List.length_append, beN_len]); omega)
          have S3 : Hid (w.heap.size ≤ wm.heap.size) := hide (HSX.out _ _ GB.out)
          clear om em
          go_upto_region 13 with (at_builtin; refine wpList_append_at _ rfl (.tmp 37) (.tmp 38) 23 rfl w.heap.size 5 i0_ _ 1 Tryd.underlying23 hi0 hz0 hz1 hz2 rfl (by omega) len_e8 one_e8 _ _ (by rfl) OB.out (some ⟨gm, 0, none⟩) 4 4 _ (by rfl) AM.out S1.out S2.out S3.out ?_; intro v7 w7 o7 g7 _ r7; have O6 := hide o7; have G6 := hide (GB.out.trans (Grw.of g7 r7)); clear o7 g7 r7)
          clear OB GB AM S1 S2 S3
          have x0 : w7.cell? ⟨xb, 0, none⟩ = some (.string ⟨uk.toArray⟩) := (HBX.out _ _ G6.out).cell 0
          have S1 : Hid ((acc ++ beN 4 1).length + uk.length ≤ maxLen) := hide (by have h1 := HAC.out; have h2 := HKL4.out; (try simp only [List.length_append, beN_len]); unfold maxLen; omega)
          have S2 : Hid ((acc ++ beN 4 1).length + uk.length ≤ 140737488355328) := hide (by have h1 := HAC.out; have h2 := HKL4.out; (try simp only [List.length_append, beN_len]); omega)
          have S3 : Hid (w.heap.size ≤ w7.heap.size) := hide (HSX.out _ _ G6.out)
          go_upto_region 14 with (at_builtin; refine wpList_append_str rfl (.tmp 40) (.tmp 42) 23 9 rfl w.heap.size 5 i0_ Tryd.underlying23 Tryd.underlying9 hi0 hz0 hz1 hz2 _ _ (by rfl) O6.out uk (by rfl) S1.out S2.out S3.out ?_; intro v7 w9 o7 g7 r7; have O7 := hide o7; have G7 := hide (G6.out.trans ⟨g7, r7⟩); clear o7 g7 r7)
          clear x0 S1 S2 S3
          go_wp2_with fail
          with_reducible refine (HW8.out _).mono ?_
          rintro e wm ⟨gm, rfl, om, em⟩
          have AM := hide om
          have OB := hide (O7.out.ext em)
          have GB := hide (G7.out.ext em)
          have S1 : Hid ((acc ++ beN 4 1 ++ uk).length + 8 ≤ maxLen) := hide (by have h1 := HAC.out; have h2 := HKL4.out; (try simp only [List.length_append, beN_len]); unfold maxLen; omega)
          have S2 : Hid (((acc ++ beN 4 1 ++ uk).length + 8) * 1 ≤ 140737488355328) := hide (by have h1 := HAC.out; have h2 := HKL4.out; (try simp only [List.length_append, beN_len]); omega)
          have S3 : Hid (w.heap.size ≤ wm.heap.size) := hide (HSX.out _ _ GB.out)
          clear om em
          go_wp2_with (at_builtin; refine wpList_append_at _ rfl (.tmp 44) (.tmp 46) 23 rfl w.heap.size 5 i0_ _ 1 Tryd.underlying23 hi0 hz0 hz1 hz2 rfl (by omega) len_e8 one_e8 _ _ (by rfl) OB.out (some ⟨gm, 0, none⟩) 8 8 _ (by rfl) AM.out S1.out S2.out S3.out ?_; intro v7 w7 o7 g7 _ r7; have O8 := hide o7; have G8 := hide (GB.out.trans (Grw.of g7 r7)); clear o7 g7 r7)
          clear OB GB AM S1 S2 S3
          go_meet
          exact ⟨_, rfl, hide (by rw [HV.out]; exact O8.out), G8⟩
        · have HV : Hid (acc ++ headB uk 2 S = acc ++ beN 4 0 ++ uk) := hide (by rw [HHB.out]; simp [firstN])
          go_wp2_with fail
          with_reducible refine (HW0.out _).mono ?_
          rintro e wm ⟨gm, rfl, om, em⟩
          have AM := hide om
          have OB := hide (O5.out.ext em)
          have GB := hide (G5.out.ext em)
          have S1 : Hid ((acc).length + 4 ≤ maxLen) := hide (by have h1 := HAC.out; have h2 := HKL4.out; (try simp only [List.length_append, beN_len]); unfold maxLen; omega)
          have S2 : Hid (((acc).length + 4) * 1 ≤ 140737488355328) := hide (by have h1 := HAC.out; have h2 := HKL4.out; (try simp only [List.length_append, beN_len]); omega)
          have S3 : Hid (w.heap.size ≤ wm.heap.size) := hide (HSX.out _ _ GB.out)
          clear om em
          go_upto_region 17 with (at_builtin; refine wpList_append_at _ rfl (.tmp 50) (.tmp 51) 23 rfl w.heap.size 5 i0_ _ 1 Tryd.underlying23 hi0 hz0 hz1 hz2 rfl (by omega) len_e8 one_e8 _ _ (by rfl) OB.out (some ⟨gm, 0, none⟩) 4 4 _ (by rfl) AM.out S1.out S2.out S3.out ?_; intro v7 w7 o7 g7 _ r7; have O6 := hide o7; have G6 := hide (GB.out.trans (Grw.of g7 r7)); clear o7 g7 r7)
          clear OB GB AM S1 S2 S3
          have x0 : w7.cell? ⟨xb, 0, none⟩ = some (.string ⟨uk.toArray⟩) := (HBX.out _ _ G6.out).cell 0
          have S1 : Hid ((acc ++ beN 4 0).length + uk.length ≤ maxLen) := hide (by have h1 := HAC.out; have h2 := HKL4.out; (try simp only [List.length_append, beN_len]); unfold maxLen; omega)
          have S2 : Hid ((acc ++ beN 4 0).length + uk.length ≤ 140737488355328) := hide (by have h1 := HAC.out; have h2 := HKL4.out; (try simp only [List.length_append, beN_len]); omega)
          have S3 : Hid (w.heap.size ≤ w7.heap.size) := hide (HSX.out _ _ G6.out)
          go_wp2_with (at_builtin; refine wpList_append_str rfl (.tmp 53) (.tmp 55) 23 9 rfl w.heap.size 5 i0_ Tryd.underlying23 Tryd.underlying9 hi0 hz0 hz1 hz2 _ _ (by rfl) O6.out uk (by rfl) S1.out S2.out S3.out ?_; intro v7 w9 o7 g7 r7; have O7 := hide o7; have G7 := hide (G6.out.trans ⟨g7, r7⟩); clear o7 g7 r7)
          clear x0 S1 S2 S3
          go_meet
          exact ⟨_, rfl, hide (by rw [HV.out]; exact O7.out), G7⟩
      case rest =>
      obtain ⟨q6, rfl, O6, G6⟩ := hcut
      clear x1 O5 G5 HW4 HW8 HW1 HW0
      have HHL : Hid ((headB uk uf S).length = 8 + (if uf = 1 then 8 else 0)) := hide (headB_len HKL4.out)
      have HDA6 := hide (HDA.out _ (HEX.out _ _ G6.out))
      have y2 : wc.cell? ⟨xb, 2, none⟩ = some (.slice dA dn dc) := (HBX.out _ _ G6.out).cell 2
      have S1 : Hid ((acc ++ headB uk uf S).length + dn ≤ maxLen) := hide (by rw [List.length_append, HHL.out, ← HDL.out]; have := HLN.out; unfold maxLen; omega)
      have S2 : Hid (((acc ++ headB uk uf S).length + dn) * 1 ≤ 140737488355328) := hide (by rw [List.length_append, HHL.out, ← HDL.out]; have := HLN.out; omega)
      have S3 : Hid (w.heap.size ≤ wc.heap.size) := hide (HSX.out _ _ G6.out)
      go_upto_region 19 with (at_builtin; refine wpList_append_at _ rfl (.tmp 57) (.tmp 59) 23 rfl w.heap.size 5 i0_ _ 1 Tryd.underlying23 hi0 hz0 hz1 hz2 rfl (by omega) len_e8 one_e8 _ _ (by rfl) O6.out dA dn dc u.data (by rfl) HDA6.out S1.out S2.out S3.out ?_; intro v7 w7 o7 g7 _ r7; have O7 := hide o7; have G7 := hide (G6.out.trans (Grw.of g7 r7)); clear o7 g7 r7)
      clear S1 S2 S3 HDA6 y2 O6 G6
      have y3 : w7.cell? ⟨xb, 3, none⟩ = some (.slice kA kn kc) := (HBX.out _ _ G7.out).cell 3
      go_wp2_with fail
      with_reducible refine (HKC.out _ (HEX.out _ _ G7.out)).mono ?_
      rintro e w8 ⟨v8, rfl, o8, e8_⟩
      obtain ⟨A8, c8, rfl, a8⟩ := o8.at_ len_e8
      have AM := hide a8
      have O8 := hide (O7.out.ext e8_)
      have G8 := hide (G7.out.ext e8_)
      clear y3 o8 e8_ a8 O7 G7
      have S1 : Hid ((acc ++ headB uk uf S ++ u.data).length + (bytL u.kids).length ≤ maxLen) := hide (by rw [List.length_append, List.length_append, HHL.out, HKB.out]; have := HLN.out; unfold maxLen; omega)
      have S2 : Hid (((acc ++ headB uk uf S ++ u.data).length + (bytL u.kids).length) * 1 ≤ 140737488355328) := hide (by rw [List.length_append, List.length_append, HHL.out, HKB.out]; have := HLN.out; omega)
      have S3 : Hid (w.heap.size ≤ w8.heap.size) := hide (HSX.out _ _ G8.out)
      have HFIN : Hid (acc ++ headB uk uf S ++ u.data ++ bytL u.kids = bytL (l.take (k + 1))) := hide (by rw [HBK1.out]; simp only [List.append_assoc])
      go_wp2_with (at_builtin; refine wpList_append_at _ rfl (.tmp 61) (.tmp 64) 23 rfl w.heap.size 5 i0_ _ 1 Tryd.underlying23 hi0 hz0 hz1 hz2 rfl (by omega) len_e8 one_e8 _ _ (by rfl) O8.out A8 (bytL u.kids).length c8 (bytL u.kids) (by rfl) AM.out S1.out S2.out S3.out ?_; intro v7 w9 o7 g7 _ r7; have O9 := hide o7; have G9 := hide (G8.out.trans (Grw.of g7 r7)); clear o7 g7 r7)
      exact ⟨⟨k + 1, _, rfl, by omega, by go_num, hide (by rw [← HFIN.out]; exact O9.out), hide (HEX.out _ _ G9.out)⟩, by simp [intOf]; omega⟩
    · obtain rfl : k = n := by omega
      rw [HT.out] at HO
      clear hlt
      go_wp2_with fail
      go_ret
      exact ⟨_, rfl, HO.out, HX.out⟩
theorem byr_any (s : Nat) : ByrStmt s := by
  induction s using Nat.strongRecOn with
  | _ s ih => exact byr_step s ih
set_option linter.unusedVariables false in
set_option maxRecDepth 100000 in
set_option maxHeartbeats 4000000 in
theorem refPack_any {l : List BoxT} {w : World} {G : Nat → Prop} {A : Option Addr} {n c : Nat} (h : BxsAt w G A n c l) (hb : bndL 140737488355328 l) :
    Calls Tryd.prog 5 #[.slice A n c] w (PkGives l w) := by
  have HF := hide (checkBoxes_any h hb)
  have HP := hide (fun (W : World) (hW : Ext w W) (hz : bfF l = 0) => byr_any _ (Nat.le_refl _) h hW ⟨0, 0, (fauL l 0 0).2, (by rw [← (bfF_zero hz).1])⟩ (by have := (bfF_zero hz).2.1; omega))
  have HG : Hid (∀ e w', PkGives l w e w' ↔ (Ext w w' ∧ (bfF l ≠ 0 → e = .returned (.tuple #[.slice none 0 0, .int .i64 (bfF l)])) ∧ (bfF l = 0 → ∃ v, e = .returned (.tuple #[v, .int .i64 0]) ∧ Own w' w.heap.size 5 1 e8 v (bytL l)))) := hide (fun _ _ => Iff.rfl)
  clear h hb
  go_enter Tryd.func5, Tryd.ntmps5
  go_wp2_with fail
  with_reducible refine HF.out.mono ?_
  rintro e w1 ⟨rfl, e1⟩
  have E1 := hide e1
  clear e1 HF
  generalize bfF l = f at *
  by_cases hz : f = 0
  · have HC := hide (HP.out w1 E1.out hz)
    subst hz
    clear HP
    go_wp2_with fail
    with_reducible refine HC.out.mono ?_
    rintro e w2 ⟨v2, rfl, o2, e2⟩
    have O2 := hide (o2.more E1.out.size)
    have E2 := hide (Ext.trans E1.out e2)
    clear o2 e2
    go_wp2_with fail
    go_ret2
    exact (HG.out _ _).2 ⟨E2.out, fun h => absurd rfl h, fun _ => ⟨_, rfl, O2.out⟩⟩
  · have d0 : (f != 0) = true := by simp [hz]
    clear HP
    go_wp2_with fail
    go_ret2
    exact (HG.out _ _).2 ⟨E1.out, fun _ => rfl, fun h => absurd h hz⟩
end Go.Proofs.YtoliplgadhdgbaaDoor
namespace Go.Proofs.YtoliplgadhdgbaaDoor
open Go.RowKit
abbrev GT : Nat → Prop := fun _ => True
/-- The cells hs tell the boxes l. -/
def PrOk (w : World) (hs : List BoxH) (l : List BoxT) : Prop := hs.length = l.length ∧ ∀ (i : Nat) (y : BoxH) (x : BoxT), hs[i]? = some y → l[i]? = some x → BxHd w GT y x ∧ BxsAt w GT y.kA y.kn y.kc x.kids
theorem PrOk.nil (w : World) : PrOk w [] [] := ⟨rfl, fun i y x hy _ => by simp at hy⟩
theorem PrOk.ext {w w' : World} (he : Ext w w') {hs : List BoxH} {l : List BoxT} (h : PrOk w hs l) : PrOk w' hs l := ⟨h.1, fun i y x hy hx => ⟨(h.2 i y x hy hx).1.ext he, (h.2 i y x hy hx).2.ext he⟩⟩
theorem BxsAt.pr {w : World} {G : Nat → Prop} {A : Option Addr} {n c : Nat} {l : List BoxT} (h : BxsAt w G A n c l) : ∃ hs, At w 4 eBx A n c hs ∧ PrOk w hs l := by
  obtain ⟨hs, a, b, c1, d⟩ := h.parts
  refine ⟨hs, a, b, fun i y x hy hx => ⟨?_, (d i y x hy hx).good (fun _ _ => rfl) (fun _ _ => trivial)⟩⟩
  exact ⟨(c1 i y x hy hx).1, (c1 i y x hy hx).2.1, (c1 i y x hy hx).2.2.1, fun _ _ => trivial⟩
theorem PrOk.at_ {w : World} {A : Option Addr} {n c : Nat} {hs : List BoxH} {l : List BoxT} (h : PrOk w hs l) (ha : At w 4 eBx A n c hs) : BxsAt w GT A n c l :=
  .mk hs l ha (fun _ _ => trivial) h.1 (fun i y x hy hx => (h.2 i y x hy hx).1) (fun i y x hy hx => (h.2 i y x hy hx).2)
theorem PrOk.app {w : World} {hs ys : List BoxH} {l m : List BoxT} (h : PrOk w hs l) (k : PrOk w ys m) : PrOk w (hs ++ ys) (l ++ m) := by
  refine ⟨by rw [List.length_append, List.length_append, h.1, k.1], fun i y x hy hx => ?_⟩
  have hl := h.1
  by_cases hi : i < hs.length
  · rw [List.getElem?_append_left hi] at hy
    rw [List.getElem?_append_left (by omega)] at hx
    exact h.2 i y x hy hx
  · rw [List.getElem?_append_right (by omega)] at hy
    rw [List.getElem?_append_right (by omega), ← hl] at hx
    exact k.2 _ y x hy hx
theorem PrOk.one {w : World} {y : BoxH} {x : BoxT} (h1 : BxHd w GT y x) (h2 : BxsAt w GT y.kA y.kn y.kc x.kids) : PrOk w [y] [x] :=
  ⟨rfl, fun i a b ha hb => by
    match i, ha, hb with
    | 0, ha, hb => simp at ha hb; subst ha hb; exact ⟨h1, h2⟩
    | i + 1, ha, hb => simp at ha⟩
/-- What Find gives: its fault. -/
def fnF (ks : List (List UInt8)) (l : List BoxT) : Int := if bfF l ≠ 0 then bfF l else if kindsB ks = false then 5 else 0
def FnGives (ks : List (List UInt8)) (l : List BoxT) (w : World) (e : Ending) (w' : World) : Prop := Ext w w' ∧ (fnF ks l ≠ 0 → e = .returned (.tuple #[.slice none 0 0, .int .i64 (fnF ks l)])) ∧
  (fnF ks l = 0 → ∃ A n c, e = .returned (.tuple #[.slice A n c, .int .i64 0]) ∧ BxsAt w' GT A n c (fndL ks l))
theorem FnGives.bad {ks : List (List UInt8)} {l : List BoxT} {w w' : World} {f : Int} (he : Ext w w') (hf : fnF ks l = f) (h0 : f ≠ 0) : FnGives ks l w (.returned (.tuple #[.slice none 0 0, .int .i64 f])) w' :=
  ⟨he, fun _ => by rw [hf], fun h => absurd (hf.symm.trans h) h0⟩
theorem FnGives.ok {ks : List (List UInt8)} {l : List BoxT} {w w' : World} {A : Option Addr} {n c : Nat} (he : Ext w w') (hf : fnF ks l = 0) (h : BxsAt w' GT A n c (fndL ks l)) : FnGives ks l w (.returned (.tuple #[.slice A n c, .int .i64 0])) w' :=
  ⟨he, fun h => absurd hf h, fun _ => ⟨A, n, c, rfl, h⟩⟩
/-- What stands after so many parts. -/
def curL (ks : List (List UInt8)) (l : List BoxT) (i : Nat) : List BoxT := if i < ks.length then lvlL ks l i else fndL ks l
theorem curL_zero {ks : List (List UInt8)} (l : List BoxT) (h : 0 < ks.length) : curL ks l 0 = l := by unfold curL; rw [if_pos h]; rfl
theorem curL_end (ks : List (List UInt8)) (l : List BoxT) : curL ks l ks.length = fndL ks l := by unfold curL; rw [if_neg (by omega)]
theorem curL_next {ks : List (List UInt8)} {l : List BoxT} {i : Nat} (h : i < ks.length) : curL ks l (i + 1) = if i + 1 < ks.length then kidsL (fltL (ks.getD i []) (curL ks l i)) else fltL (ks.getD i []) (curL ks l i) := by
  unfold curL
  by_cases h1 : i + 1 < ks.length
  · rw [if_pos h1, if_pos h1, if_pos h]; rfl
  · rw [if_neg h1, if_neg h1, if_pos h]
    have : ks.length - 1 = i := by omega
    unfold fndL; rw [this]
theorem curL_lvl {ks : List (List UInt8)} {l : List BoxT} {i : Nat} (h : i < ks.length) : curL ks l i = lvlL ks l i := by unfold curL; rw [if_pos h]
theorem cnt_bf {l : List BoxT} (h : bfF l = 0) : cntL l ≤ 2000 := by
  have h1 : fauL l 0 0 = (0, (fauL l 0 0).2) := by rw [← (bfF_zero h).1]
  have h2 := fau_count l 0 0 _ h1
  have h3 := fau_max l 0 0 _ h1 (by omega)
  omega
end Go.Proofs.YtoliplgadhdgbaaDoor
namespace Go.Proofs.YtoliplgadhdgbaaDoor
open Go.RowKit
set_option linter.unusedVariables false in
set_option maxRecDepth 100000 in
set_option maxHeartbeats 8000000 in
theorem refFind_any {l : List BoxT} {w : World} {G : Nat → Prop} {A : Option Addr} {n c : Nat} (h : BxsAt w G A n c l) (hb : bndL 140737488355328 l) (s : ByteArray) (hs : s.size < 4294967281) :
    Calls Tryd.prog 7 #[.slice A n c, .string s] w (FnGives (prtL s.data.toList) l w) := by
  have HF := hide (checkBoxes_any h hb)
  have HP := hide (fun (W : World) => parts_any s W hs)
  have HH := hide h
  have HKL : Hid (∀ k, k ∈ prtL s.data.toList → k.length ≤ 4294967281) := hide (fun k hk => by
    have h1 := prtL_short s.data.toList _ hk
    have h2 : s.data.toList.length = s.size := by simp
    omega)
  have hk0 := prtL_pos s.data.toList
  have hk1 := prtL_le s.data.toList
  have hk2 : s.data.toList.length = s.size := by simp
  have hk3 : (prtL s.data.toList).length ≤ 4294967282 := by omega
  have HV : Hid (fnF (prtL s.data.toList) l = if bfF l ≠ 0 then bfF l else if kindsB (prtL s.data.toList) = false then 5 else 0) := hide rfl
  have HCN := hide (fun (hz : bfF l = 0) => cnt_bf hz)
  clear h hb hk1 hk2
  generalize prtL s.data.toList = ks at *
  go_enter Tryd.func7, Tryd.ntmps7
  go_wp2_with fail
  with_reducible refine HF.out.mono ?_
  rintro e w1 ⟨rfl, e1⟩
  have E1 := hide e1
  clear e1 HF
  by_cases hz : bfF l = 0
  rotate_left
  · have HQ : Hid (fnF ks l = bfF l) := hide (by rw [HV.out, if_pos hz])
    have d0 : (bfF l != 0) = true := by simp [hz]
    have HZ := hide hz
    clear hz HV
    generalize bfF l = f at *
    go_wp2_with fail
    go_ret2
    exact FnGives.bad E1.out HQ.out HZ.out
  have HVK : Hid (fnF ks l = if kindsB ks = false then 5 else 0) := hide (by rw [HV.out, if_neg (by simp [hz])])
  have hcn := HCN.out hz
  rw [hz]
  clear HV HCN hz
  go_wp2_with fail
  with_reducible refine (HP.out _).mono ?_
  rintro e w2 ⟨kA, kc, rfl, ka, e2⟩
  have E2 := hide (Ext.trans E1.out e2)
  have KA := hide ka
  have HN := hide (rfl : ks.length = ks.length)
  have hkb := ka.bound
  obtain ⟨kb, ko, rfl, hxx⟩ := ka.addr hk0
  clear hxx
  clear ka e2 HP E1
  generalize hm : ks.length = m at *
  have HM := hide hm
  clear hm HN
  go_wp2_with fail
  go_loop [8] (fun ri => ∃ i : Nat, i ≤ m ∧ ri = .int .i64 i ∧ Hid (kindsB (ks.take i) = true)) (fun ri => m - (intOf ri).toNat)
  case atStart => exact ⟨0, by omega, rfl, hide (by simp [kindsB])⟩
  case round =>
    obtain ⟨i, hi, rfl, HK⟩ := hrel
    by_cases hlt : i < m
    · have hik : i < ks.length := by have := HM.out; omega
      have a0 : w2.cell? ⟨kb, ko + i, none⟩ = some (.string ⟨ks[i].toArray⟩) := by
        have h1 := KA.out.cellK (k := i) hlt [] 0 _ rfl
        simpa [List.getD, hik] using h1
      have HC := hide (isKindRL ks[i] (by have := HKL.out _ (List.getElem_mem hik); unfold maxLen; omega))
      have HNO := hide (fun hb => kindsB_no (i := i) hik hb)
      have HYE := hide (kindsB_take (i := i) hik)
      generalize ks[i] = kk at *
      have i1 : (i : Int) < (m : Int) := by omega
      cases hib : isKindB kk with
      | false =>
        have HQ : Hid (fnF ks l = 5) := hide (by rw [HVK.out, if_pos (HNO.out hib)])
        rw [hib] at HC
        clear hib hik
        go_wp2_with fail
        with_reducible refine (HC.out _).mono ?_
        rintro e w' ⟨rfl, rfl⟩
        go_wp2_with fail
        go_ret2
        exact FnGives.bad E2.out HQ.out (by omega)
      | true =>
        have HK2 : Hid (kindsB (ks.take (i + 1)) = true) := hide (by rw [HYE.out, HK.out, hib]; rfl)
        rw [hib] at HC
        clear hib hik
        go_wp2_with fail
        with_reducible refine (HC.out _).mono ?_
        rintro e w' ⟨rfl, rfl⟩
        go_wp2_with fail
        go_round
        case rel => exact ⟨i + 1, by omega, by go_num, HK2⟩
        case measure => simp [intOf]; omega
    · obtain rfl : i = m := by omega
      have HQ : Hid (fnF ks l = 0) := hide (by rw [HVK.out, if_neg (by have := HK.out; rw [← HM.out, List.take_length] at this; rw [this]; simp)])
      clear HK hlt HVK HKL
      go_wp2_with fail
      go_loopw [0, 9] (fun r0 ri wr => ∃ (j : Nat) (B : Option Addr) (bn bc : Nat), r0 = .slice B bn bc ∧ j ≤ i ∧ ri = .int .i64 j ∧ Hid (BxsAt wr GT B bn bc (curL ks l j)) ∧ Hid (Ext w2 wr)) (fun _ ri _ => i - (intOf ri).toNat)
      case atStart => exact ⟨0, A, n, c, rfl, by omega, rfl, hide (by rw [curL_zero l (by have := HM.out; omega)]; exact (HH.out.ext E2.out).good (fun _ _ => rfl) (fun _ _ => trivial)), hide (Ext.refl _)⟩
      case round =>
        obtain ⟨j, B, bn, bc, rfl, hj, rfl, HB, HX⟩ := hrel
        obtain ⟨wo, hwo⟩ : ∃ wo, wo = wr := ⟨_, rfl⟩
        subst hwo
        by_cases hlt : j < i
        · have hjk : j < ks.length := by have := HM.out; omega
          have hbl := HB.out.len
          have HCU := hide (curL_next (l := l) hjk)
          have hcl : (curL ks l j).length ≤ 2000 := by rw [curL_lvl hjk]; have := lvl_len ks l j; omega
          have HK1 : Hid (∀ q, (kidsL (fltL (ks.getD j []) ((curL ks l j).take q))).length ≤ 2000) := hide (fun q => by rw [curL_lvl hjk]; have := kids_len2 (ks.getD j []) ks l j q; omega)
          have HF1 : Hid (∀ q, (fltL (ks.getD j []) ((curL ks l j).take q)).length ≤ 2000) := hide (fun q => by
            have h1 := cntL_len (fltL (ks.getD j []) ((curL ks l j).take q))
            have h2 := cntL_flt (ks.getD j []) ((curL ks l j).take q)
            have h3 := cntL_take (curL ks l j) q
            have h4 : cntL (curL ks l j) ≤ cntL l := by rw [curL_lvl hjk]; exact cntL_lvl ks l j
            omega)
          have HDV : Hid (decide (j + 1 < i) = decide (j + 1 < ks.length)) := hide (by rw [HM.out])
          obtain ⟨hs, ha, hp⟩ := HB.out.pr
          have HA := hide ha
          have HPK := hide hp
          have hhl := hp.1
          have kcell := (KA.out.ext HX.out).cellK (k := j) (by omega) [] 0 _ rfl
          simp only [Nat.mul_one, Nat.add_zero] at kcell
          have HKC : Hid (wo.cell? ⟨kb, ko + j, none⟩ = some (.string ⟨(ks.getD j []).toArray⟩)) := hide kcell
          clear ha hp kcell hjk
          generalize ks.getD j [] = kd at *
          generalize curL ks l j = L at *
          have hbb := HA.out.bound
          have i1 : (j : Int) < (i : Int) := by omega
          have i0 : (0 : Int) ≤ (j : Int) := by omega
          have i8 : IntKind.i64.wrap ((j : Int) + 1) = (j : Int) + 1 := by rw [IntKind.wrap_i64]; omega
          obtain ⟨i0_, hi0, hz0, hz1, hz2⟩ := info_parts Tryd.info39
          go_wp2_with fail
          go_loopw [10, 11] (fun r10 rk wr => ∃ (q : Nat) (v : Value) (ys : List BoxH), v = r10 ∧ q ≤ bn ∧ rk = .int .i64 q ∧ Hid (Own wr wo.heap.size 39 4 eBx v ys) ∧ Hid (PrOk wo ys (if j + 1 < ks.length then kidsL (fltL kd (L.take q)) else fltL kd (L.take q))) ∧ Hid (Ext wo wr)) (fun _ rk _ => bn - (intOf rk).toNat)
          case atStart => exact ⟨0, _, [], rfl, by omega, rfl, hide (Own.nil _ _ _ _ _), hide (by simp [fltL, kidsL]; exact PrOk.nil _), hide (Ext.refl _)⟩
          case round =>
            obtain ⟨q, v, ys, rfl, hq, rfl, HO, HPY, HY⟩ := hrel
            by_cases hql : q < bn
            · have hqL : q < L.length := by omega
              have hqh : q < hs.length := by omega
              obtain ⟨b, o, rfl, _⟩ := HA.out.addr (by omega)
              have EY := HY.out
              have hat := HA.out.ext EY
              have gy : hs.getD q default = hs[q] := by simp [List.getD, hqh]
              have hq1 := HPK.out.2 q _ _ (List.getElem?_eq_getElem hqh) (List.getElem?_eq_getElem hqL)
              have HU : Hid (fltL kd (L.take (q + 1)) = if L[q].kind = kd then fltL kd (L.take q) ++ [L[q]] else fltL kd (L.take q)) := hide (fltL_take hqL)
              have HK1q := HK1.out (q + 1)
              have HF1q := HF1.out (q + 1)
              have hpl := HPY.out.1
              generalize hs[q] = z at *
              generalize L[q] = u at *
              have a0 : wr.cell? ⟨b, o + q * 4, none⟩ = some (.string ⟨z.kind.toArray⟩) := hat.cellK hql default 0 _ (by rw [gy]; rfl)
              have a1 : wr.cell? ⟨b, o + q * 4 + 1, none⟩ = some (.int .i64 z.form) := hat.cellK hql default 1 _ (by rw [gy]; rfl)
              have a2 : wr.cell? ⟨b, o + q * 4 + 2, none⟩ = some (.slice z.dA z.dn z.dc) := hat.cellK hql default 2 _ (by rw [gy]; rfl)
              have a3 : wr.cell? ⟨b, o + q * 4 + 3, none⟩ = some (.slice z.kA z.kn z.kc) := hat.cellK hql default 3 _ (by rw [gy]; rfl)
              have HQ1 := hide hq1
              have hzk : z.kind = u.kind := hq1.1.1
              have hkn := hq1.2.len
              have ak := EY.cell HKC.out
              have j1 : (q : Int) < (bn : Int) := by omega
              have j0 : (0 : Int) ≤ (q : Int) := by omega
              have j8 : IntKind.i64.wrap ((q : Int) + 1) = (q : Int) + 1 := by rw [IntKind.wrap_i64]; omega
              have AW : Hid (∀ nq, Ext wo (wr.drewN nq)) := hide (fun nq => Ext.trans HY.out (Ext.drewN _ _))
              have OW : Hid (∀ nq, Own (wr.drewN nq) wo.heap.size 39 4 eBx v ys) := hide (fun nq => HO.out.ext (Ext.drewN _ _))
              by_cases hkk : u.kind = kd
              · have dk : (z.kind == kd) = true := by rw [hzk, hkk]; simp
                rw [if_pos hkk] at HU
                rw [HU.out, kidsL_app] at HK1q
                rw [HU.out] at HF1q
                simp only [List.length_append] at HK1q HF1q
                have hkd1 : kidsL [u] = u.kids := by simp [kidsL]
                rw [hkd1] at HK1q
                by_cases hlast : j + 1 < i
                · have g1 : (j : Int) + 1 < (i : Int) := by omega
                  have hlk : j + 1 < ks.length := by have := HM.out; omega
                  rw [if_pos hlk] at hpl
                  have S1 : Hid (ys.length + z.kn ≤ maxLen) := hide (by unfold maxLen; omega)
                  have S2 : Hid ((ys.length + z.kn) * 72 ≤ 140737488355328) := hide (by omega)
                  have S3 : Hid (∀ nq, wo.heap.size ≤ (wr.drewN nq).heap.size) := hide (fun nq => (AW.out nq).size)
                  obtain ⟨zs, za, zp⟩ := HQ1.out.2.pr
                  have ZA : Hid (∀ nq, At (wr.drewN nq) 4 eBx z.kA z.kn z.kc zs) := hide (fun nq => za.ext (AW.out nq))
                  have HNX : Hid (PrOk wo (ys ++ zs) (if j + 1 < ks.length then kidsL (fltL kd (L.take (q + 1))) else fltL kd (L.take (q + 1)))) := hide (by
                    rw [if_pos hlk, HU.out, kidsL_app, hkd1]
                    have := HPY.out
                    rw [if_pos hlk] at this
                    exact this.app zp)
                  clear hkk hzk HU hlk hlast hq1 hat gy za zp hpl hkd1 hkn HK1q HF1q
                  go_wp2_with fail
                  go_quiet (fail)
                  go_wp2_with (at_builtin; refine wpList_append_at _ rfl (.tmp 58) (.tmp 63) 22 rfl wo.heap.size 39 i0_ _ 72 Tryd.underlying22 hi0 hz0 hz1 hz2 rfl (by omega) len_eBx one_eBx _ _ (by rfl) (OW.out _) z.kA z.kn z.kc zs (by rfl) (ZA.out _) S1.out S2.out (S3.out _) ?_; intro v7 w7 o7 g7 _ _; have O7 := hide o7; have E7 : Hid (Ext wo w7) := hide ((OW.out _).below (AW.out _) g7 (Nat.le_refl _)); clear o7 g7)
                  exact ⟨⟨q + 1, _, _, rfl, by omega, by go_num, O7, HNX, E7⟩, by simp [intOf]; omega⟩
                · have g1 : ¬ (j : Int) + 1 < (i : Int) := by omega
                  have hlk : ¬ j + 1 < ks.length := by have := HM.out; omega
                  rw [if_neg hlk] at hpl
                  have S1 : Hid (ys.length + 1 ≤ maxLen) := hide (by unfold maxLen; omega)
                  have S2 : Hid ((ys.length + 1) * 72 ≤ 140737488355328) := hide (by omega)
                  have EA : Hid (∀ nq, Ext wo ((wr.drewN nq).alloc (.cells #[.string ⟨z.kind.toArray⟩, .int .i64 z.form, .slice z.dA z.dn z.dc, .slice z.kA z.kn z.kc] 39))) := hide (fun nq => Ext.trans (AW.out nq) (Ext.alloc _ _))
                  have OA : Hid (∀ nq, Own ((wr.drewN nq).alloc (.cells #[.string ⟨z.kind.toArray⟩, .int .i64 z.form, .slice z.dA z.dn z.dc, .slice z.kA z.kn z.kc] 39)) wo.heap.size 39 4 eBx v ys) := hide (fun nq => (OW.out nq).ext (Ext.alloc _ _))
                  have NA : Hid (∀ nq, At ((wr.drewN nq).alloc (.cells #[.string ⟨z.kind.toArray⟩, .int .i64 z.form, .slice z.dA z.dn z.dc, .slice z.kA z.kn z.kc] 39)) 4 eBx (some ⟨wr.heap.size, 0, none⟩) 1 1 [z]) := hide (fun nq => At.newE (enc := eBx) (wr.drewN nq) z _ _ rfl)
                  have HNX : Hid (PrOk wo (ys ++ [z]) (if j + 1 < ks.length then kidsL (fltL kd (L.take (q + 1))) else fltL kd (L.take (q + 1)))) := hide (by
                    rw [if_neg hlk, HU.out]
                    have := HPY.out
                    rw [if_neg hlk] at this
                    exact this.app (PrOk.one HQ1.out.1 HQ1.out.2))
                  clear hkk hzk HU hlk hlast hq1 hat gy hpl hkd1 hkn HK1q HF1q
                  go_wp2_with fail
                  go_quiet (fail)
                  go_wp2_with (at_builtin; refine wpList_append_at _ rfl (.tmp 65) (.tmp 70) 22 rfl wo.heap.size 39 i0_ _ 72 Tryd.underlying22 hi0 hz0 hz1 hz2 rfl (by omega) len_eBx one_eBx _ _ (by rfl) (OA.out _) (some ⟨wr.heap.size, 0, none⟩) 1 1 [z] (by rfl) (NA.out _) S1.out S2.out (EA.out _).size ?_; intro v7 w7 o7 g7 _ _; have O7 := hide o7; have E7 : Hid (Ext wo w7) := hide ((OA.out _).below (EA.out _) g7 (Nat.le_refl _)); clear o7 g7)
                  exact ⟨⟨q + 1, _, _, rfl, by omega, by go_num, O7, HNX, E7⟩, by simp [intOf]; omega⟩
              · have dk : (z.kind == kd) = false := by rw [hzk, beq_eq_false_iff_ne]; exact hkk
                rw [if_neg hkk] at HU
                have HNX : Hid (PrOk wo ys (if j + 1 < ks.length then kidsL (fltL kd (L.take (q + 1))) else fltL kd (L.take (q + 1)))) := hide (by rw [HU.out]; exact HPY.out)
                clear hkk hzk HU hq1 hat gy hpl hkn HK1q HF1q
                go_wp2_with fail
                go_quiet (fail)
                go_wp2_with fail
                exact ⟨⟨q + 1, _, _, rfl, by omega, by go_num, hide (OW.out _), HNX, hide (AW.out _)⟩, by simp [intOf]; omega⟩
            · obtain rfl : q = bn := by omega
              have HFN : Hid (∃ vA vc, v = .slice vA ys.length vc ∧ BxsAt wr GT vA ys.length vc (curL ks l (j + 1))) := hide (by
                obtain ⟨vA, vc, hv, hva⟩ := HO.out.at_ len_eBx
                refine ⟨vA, vc, hv, ?_⟩
                rw [HCU.out]
                have hpk := HPY.out
                rw [show L.take q = L from by rw [← hbl, List.take_length]] at hpk
                exact (hpk.ext HY.out).at_ hva)
              have HXX := hide (Ext.trans HX.out HY.out)
              obtain ⟨vA, vc, hv, hb2⟩ := HFN.out
              subst hv
              have HB2 := hide hb2
              clear hb2 HFN hql
              go_wp2_with fail
              exact ⟨⟨j + 1, _, _, _, rfl, by omega, by go_num, HB2, HXX⟩, by simp [intOf]; omega⟩
        · obtain rfl : j = i := by omega
          have HBE : Hid (BxsAt wo GT B bn bc (fndL ks l)) := hide (by have := HB.out; rw [← HM.out, curL_end] at this; exact this)
          have HXX := hide (Ext.trans E2.out HX.out)
          clear hlt HB
          go_wp2_with fail
          go_ret2
          exact FnGives.ok HXX.out HQ.out HBE.out
end Go.Proofs.YtoliplgadhdgbaaDoor
namespace Go.Proofs.YtoliplgadhdgbaaDoor
open Go.RowKit
/-- Boxes in a row that the call owns: the parts of each lie in other blocks than the row's. -/
structure RwB (w : World) (B : Nat) (v : Value) (hs : List BoxH) (l : List BoxT) : Prop where
  own : Own w B 39 4 eBx v hs
  len : hs.length = l.length
  els : ∃ G : Nat → Prop, (∀ k, G k → B ≤ k ∧ k < w.heap.size ∧ v.ownBlock ≠ some k) ∧ ∀ (i : Nat) (y : BoxH) (x : BoxT), hs[i]? = some y → l[i]? = some x → BxOk w G y x
theorem RwB.nil (w : World) (B : Nat) : RwB w B (.slice none 0 0) [] [] := ⟨Own.nil _ _ _ _ _, rfl, fun _ => False, (fun k h => h.elim), fun i y x hy _ => by simp at hy⟩
theorem RwB.ext {w w' : World} {B : Nat} {v : Value} {hs : List BoxH} {l : List BoxT} (h : RwB w B v hs l) (he : Ext w w') : RwB w' B v hs l := by
  obtain ⟨h1, h2, G, h3, h4⟩ := h
  exact ⟨h1.ext he, h2, G, fun k hk => ⟨(h3 k hk).1, Nat.lt_of_lt_of_le (h3 k hk).2.1 he.size, (h3 k hk).2.2⟩, fun i y x hy hx => (h4 i y x hy hx).good (fun k hk => he.block k (h3 k hk).2.1) (fun _ hk => hk)⟩
theorem RwB.tw {w w' : World} {B o : Nat} {v : Value} {hs : List BoxH} {l : List BoxT} (h : RwB w B v hs l) (hT : Tw w w' o none) (ho : o < B) : RwB w' B v hs l := by
  obtain ⟨h1, h2, G, h3, h4⟩ := h
  refine ⟨h1.tw hT (fun e => by have := (h1.lt o e).1; omega) (fun g hg e => by cases e), h2, G, fun k hk => ⟨(h3 k hk).1, Nat.lt_of_lt_of_le (h3 k hk).2.1 hT.size, (h3 k hk).2.2⟩, fun i y x hy hx => (h4 i y x hy hx).good (fun k hk => hT.block k (h3 k hk).2.1 (by have := (h3 k hk).1; omega) (by simp)) (fun _ hk => hk)⟩
theorem RwB.snoc {w wa w' : World} {B : Nat} {v v' : Value} {hs : List BoxH} {l : List BoxT} {y : BoxH} {x : BoxT} {G' : Nat → Prop} (h : RwB w B v hs l) (hy : BxOk w G' y x)
    (hG : ∀ k, G' k → B ≤ k ∧ k < w.heap.size ∧ v.ownBlock ≠ some k) (he : Ext w wa) (ho : Own w' B 39 4 eBx v' (hs ++ [y])) (hg : wa.grownBy w' v.ownBlock) (hr : v'.ownBlock = v.ownBlock ∨ v'.ownBlock = some wa.heap.size) :
    RwB w' B v' (hs ++ [y]) (l ++ [x]) := by
  obtain ⟨h1, h2, G, h3, h4⟩ := h
  have hsz := he.size
  have hb : ∀ k, k < w.heap.size → v.ownBlock ≠ some k → w'.heap[k]? = w.heap[k]? := fun k hk hn => (hg.block k (by omega) (fun e => hn e.symm)).trans (he.block k hk)
  refine ⟨ho, by simp [h2], fun k => G k ∨ G' k, fun k hk => ?_, fun i y' x' hy' hx' => ?_⟩
  · have hk2 : B ≤ k ∧ k < w.heap.size ∧ v.ownBlock ≠ some k := by
      rcases hk with hk | hk
      · exact h3 k hk
      · exact hG k hk
    refine ⟨hk2.1, by have := hg.size; omega, ?_⟩
    rcases hr with hr | hr
    · rw [hr]; exact hk2.2.2
    · rw [hr]; intro e; injection e with e; omega
  · rcases get_snoc hy' with hy1 | ⟨hy1, rfl⟩
    · have hi := get_lt hy1
      have hx1 : l[i]? = some x' := by
        rw [List.getElem?_append_left (by omega)] at hx'
        exact hx'
      exact (h4 i y' x' hy1 hx1).good (fun k hk => hb k (h3 k hk).2.1 (h3 k hk).2.2) (fun _ hk => .inl hk)
    · have hx1 : x' = x := by
        rcases get_snoc hx' with hx1 | ⟨_, hx1⟩
        · have := get_lt hx1; omega
        · exact hx1
      subst hx1
      exact hy.good (fun k hk => hb k (hG k hk).2.1 (hG k hk).2.2) (fun _ hk => .inr hk)
theorem RwB.at_ {w : World} {B : Nat} {A : Option Addr} {n c : Nat} {hs : List BoxH} {l : List BoxT} (h : RwB w B (.slice A n c) hs l) : BxsAt w (fun k => B ≤ k ∧ k < w.heap.size) A n c l := by
  obtain ⟨h1, h2, G, h3, h4⟩ := h
  have hk : ∀ (i : Nat) (y : BoxH) (x : BoxT), hs[i]? = some y → l[i]? = some x → BxOk w (fun k => B ≤ k ∧ k < w.heap.size) y x := fun i y x hy hx => (h4 i y x hy hx).good (fun _ _ => rfl) (fun k hk => ⟨(h3 k hk).1, (h3 k hk).2.1⟩)
  exact .mk hs l (h1.atS len_eBx) (fun a ha => by subst ha; exact h1.lt a.block rfl) h2 (fun i y x hy hx => (hk i y x hy hx).1) (fun i y x hy hx => (hk i y x hy hx).2)
theorem sizeL_flt (k : List UInt8) : ∀ l : List BoxT, sizeL (fltL k l) ≤ sizeL l
  | [] => by simp [fltL, sizeL]
  | x :: r => by
    have ih := sizeL_flt k r
    unfold fltL at ih ⊢
    rw [List.filter_cons, sizeL]
    split
    · rw [sizeL]; omega
    · omega
theorem sizeL_kids : ∀ l : List BoxT, sizeL (kidsL l) ≤ sizeL l
  | [] => by simp [kidsL, sizeL]
  | x :: r => by
    have ih := sizeL_kids r
    have h1 := sizeT_eq x
    have h2 : kidsL (x :: r) = x.kids ++ kidsL r := by unfold kidsL; simp
    rw [h2, sizeL_app, sizeL]
    omega
theorem sizeL_lvl (ks : List (List UInt8)) (l : List BoxT) : ∀ i, sizeL (lvlL ks l i) ≤ sizeL l
  | 0 => Nat.le_refl _
  | i + 1 => Nat.le_trans (sizeL_kids _) (Nat.le_trans (sizeL_flt _ _) (sizeL_lvl ks l i))
theorem sizeL_fnd (ks : List (List UInt8)) (l : List BoxT) : sizeL (fndL ks l) ≤ sizeL l := Nat.le_trans (sizeL_flt _ _) (sizeL_lvl ks l _)
theorem sizeL_len : ∀ l : List BoxT, l.length ≤ sizeL l
  | [] => by simp [sizeL]
  | x :: r => by have := sizeL_len r; have := sizeT_eq x; rw [sizeL, List.length_cons]; omega
theorem gen_K {K : Act → World → Prop} {a : Act} {w : World} (h : ∀ V, V = w → K a V) : K a w := h w rfl
theorem Tw.of_extL {w W W' : World} (ht : Tw W W' w.heap.size none) (h : Ext w W) : Ext w W' :=
  ⟨ht.os.trans h.os, ht.tape.trans h.tape, ht.output.trans h.output, Nat.le_trans h.size ht.size, fun k hk => (ht.block k (Nat.lt_of_lt_of_le hk h.size) (by omega) (by simp)).trans (h.block k hk)⟩
/-- What copyOf gives. -/
def CpyGives (x : BoxT) (W : World) (e : Ending) (w' : World) : Prop := ∃ z : BoxH, e = .returned (.agg #[.string ⟨z.kind.toArray⟩, .int .i64 z.form, .slice z.dA z.dn z.dc, .slice z.kA z.kn z.kc]) ∧ BxOk w' (fun k => W.heap.size ≤ k ∧ k < w'.heap.size) z x ∧ Ext W w'
def CpyStmt (s : Nat) : Prop := ∀ {x : BoxT} {y : BoxH} {w W : World} {G : Nat → Prop}, SizeOf.sizeOf x ≤ s → BxHd w G y x → BxsAt w G y.kA y.kn y.kc x.kids → Ext w W → sizeT x ≤ 1000000 →
  Calls Tryd.prog 17 #[bxV y x] W (CpyGives x W)
/-- What is there behind copyOf's first statement. -/
structure CpF (w0 : World) (rb ob : Nat) (uk : List UInt8) (uf : Int) (dat : List UInt8) (dA : Option Addr) (dc : Nat) (v : Value) (wx : World) : Prop where
  blk : Blk wx ob 39 #[.string ⟨uk.toArray⟩, .int .i64 uf, .slice dA dat.length dc, v]
  dat : At wx 1 e8 dA dat.length dc dat
  apart : ∀ a, dA = some a → rb < a.block ∧ a.block ≠ ob ∧ a.block < wx.heap.size
  late : rb < ob
  ext : Ext w0 wx
set_option linter.unusedVariables false in
set_option linter.unusedSimpArgs false in
set_option maxRecDepth 100000 in
set_option maxHeartbeats 8000000 in
theorem cpy_step (s : Nat) (ih : ∀ s', s' < s → CpyStmt s') : CpyStmt s := by
  intro x y w W G hs hh hk he hb
  show Calls Tryd.prog 17 #[.agg #[.string ⟨x.kind.toArray⟩, .int .i64 x.form, .slice y.dA y.dn y.dc, .slice y.kA y.kn y.kc]] W _
  have hh := hh.ext he
  have hk := hk.ext he
  have hd := hh.2.2.1.len
  have hkl := hk.len
  obtain ⟨ys, ha, hy, hh1, hk1⟩ := hk.parts
  have HA := hide ha
  have HH1 := hide hh1
  have HK1 := hide hk1
  have IH := hide ih
  have HY := hide hy
  have HKL := hide hkl
  have hse := sizeT_eq x
  have hkn2 := sizeL_len x.kids
  have HD := hide hh.2.2.1
  have HDL := hide hd
  have HSL : Hid (∀ (k : Nat) (h : k < x.kids.length), sizeT x.kids[k] ≤ 1000000) := hide (fun k h => by have h1 := sizeL_take h; have h2 := sizeL_le x.kids (k + 1); omega)
  have HSZ := hide (fun (k : Nat) (h : k < x.kids.length) => (by have := kids_lt x; have := elem_lt (List.getElem_mem h); omega : SizeOf.sizeOf x.kids[k] < s))
  have hkb := ha.bound
  have hdn : y.dn ≤ 1000000 := by omega
  have hkn : y.kn ≤ 1000000 := by omega
  have HTK : Hid (x.kids.take y.kn = x.kids) := hide (by rw [← hkl, List.take_length])
  obtain ⟨i0_, hi0, hz0, hz1, hz2⟩ := info_parts Tryd.info5
  obtain ⟨j0_, hj0, hy0, hy1, hy2⟩ := info_parts Tryd.info39
  have HGV : Hid (∀ e w', CpyGives x W e w' ↔ ∃ z : BoxH, e = .returned (.agg #[.string ⟨z.kind.toArray⟩, .int .i64 z.form, .slice z.dA z.dn z.dc, .slice z.kA z.kn z.kc]) ∧ BxOk w' (fun k => W.heap.size ≤ k ∧ k < w'.heap.size) z x ∧ Ext W w') := hide (fun _ _ => Iff.rfl)
  have HOK : Hid (∀ (z : BoxH) (w' : World) (G : Nat → Prop), z.kind = x.kind → z.form = x.form → At w' 1 e8 z.dA z.dn z.dc x.data → InG G z.dA → BxsAt w' G z.kA z.kn z.kc x.kids → BxOk w' G z x) := hide (fun z w' G a b c d e => ⟨⟨a, b, c, d⟩, e⟩)
  generalize CpyGives x W = Q at *
  clear ha hh1 hk1 ih hy hkl hd hh hk hs hse hb hkn2 he
  generalize x.form = xf at *
  generalize x.kind = xk at *
  generalize x.data = dat at *
  generalize y.dn = dn at *
  generalize y.dA = dA at *
  generalize y.dc = dc at *
  generalize y.kn = kn at *
  generalize y.kA = kA at *
  generalize y.kc = kc at *
  generalize x.kids = l at *
  go_enter Tryd.func17, Tryd.ntmps17
  go_upto_region 1 with (fail)
  refine gen_wpC fun w0 h0 => ?_
  have F0 : Hid (Ext W w0) := hide (by rw [h0]; exact Ext.trans (Ext.alloc _ _) (Ext.alloc _ _))
  have Y0 : Hid (Blk w0 W.heap.size 39 #[.string ⟨xk.toArray⟩, .int .i64 xf, .slice dA dn dc, .slice kA kn kc]) := hide (by rw [h0]; exact (Blk.new _ _ _).alloc _)
  have R0 : Hid (Blk w0 (W.heap.size + 1) 39 #[.string ByteArray.empty, .int .i64 0, .slice none 0 0, .slice none 0 0]) := hide (by rw [h0]; have := Blk.new (W.alloc (.cells #[.string ⟨xk.toArray⟩, .int .i64 xf, .slice dA dn dc, .slice kA kn kc] 39)) 39 #[.string ByteArray.empty, .int .i64 0, .slice none 0 0, .slice none 0 0]; rwa [World.size_alloc] at this)
  have Z0 : Hid (w0.heap.size = W.heap.size + 2) := hide (by rw [h0]; simp)
  clear h0
  go_cut [3] (fun s3 wx => ∃ (ob : Nat) (eA : Option Addr) (ec : Nat), s3 = .pointer (some ⟨ob, 0, none⟩) ∧ Hid (CpF w0 (W.heap.size + 1) ob xk xf dat eA ec (.slice none 0 0) wx))
  case first =>
    have hS0 : ((World.drew w0).cell? ⟨W.heap.size, 0, none⟩ = some (.string ⟨xk.toArray⟩)) ∧ ((World.drew w0).cell? ⟨W.heap.size, 1, none⟩ = some (.int .i64 xf)) ∧ ((World.drew w0).cell? ⟨W.heap.size, 2, none⟩ = some (.slice dA dn dc)) := ⟨(Ext.drew _).cell (Y0.out.cell 0), (Ext.drew _).cell (Y0.out.cell 1), (Ext.drew _).cell (Y0.out.cell 2)⟩
    refine wp_region_held_drew (S := fun V => (V.cell? ⟨W.heap.size, 0, none⟩ = some (.string ⟨xk.toArray⟩)) ∧ (V.cell? ⟨W.heap.size, 1, none⟩ = some (.int .i64 xf)) ∧ (V.cell? ⟨W.heap.size, 2, none⟩ = some (.slice dA dn dc))) (by kernel_rfl) hS0 (fun hS => ?_)
    refine held_take (i := 0) (d := 6) (oi := _) (v := ?_) rfl rfl (by kernel_rfl) (by kernel_rfl) (by kernel_rfl) (fun _ _ _ h => h) (Or.inl ⟨by rfl, ?_⟩) hS ?_
    rotate_left
    · intro W hW; obtain ⟨s0, s1, s2⟩ := hW; first | (go_simp; done) | (go_simp; with_reducible rfl)
    try simp only [Act.put, List.setIfInBounds_toArray, List.set_cons_zero, List.set_cons_succ]
    refine held_take (i := 1) (d := 7) (oi := _) (v := ?_) rfl rfl (by kernel_rfl) (by kernel_rfl) (by kernel_rfl) (fun _ _ _ h => h) (Or.inl ⟨by rfl, ?_⟩) hS ?_
    rotate_left
    · intro W hW; obtain ⟨s0, s1, s2⟩ := hW; first | (go_simp; done) | (go_simp; with_reducible rfl)
    try simp only [Act.put, List.setIfInBounds_toArray, List.set_cons_zero, List.set_cons_succ]
    refine held_take (i := 2) (d := 8) (oi := _) (v := ?_) rfl rfl (by kernel_rfl) (by kernel_rfl) (by kernel_rfl) (fun _ _ _ h => h) (Or.inl ⟨by rfl, ?_⟩) hS ?_
    rotate_left
    · intro W hW; obtain ⟨s0, s1, s2⟩ := hW; first | (go_simp; done) | (go_simp; with_reducible rfl)
    try simp only [Act.put, List.setIfInBounds_toArray, List.set_cons_zero, List.set_cons_succ]
    refine held_take (i := 3) (d := 9) (oi := _) (v := ?_) rfl rfl (by kernel_rfl) (by kernel_rfl) (by kernel_rfl) (fun _ _ _ h => h) (Or.inl ⟨by rfl, ?_⟩) hS ?_
    rotate_left
    · intro W hW; obtain ⟨s0, s1, s2⟩ := hW; first | (go_simp; done) | (go_simp; with_reducible rfl)
    try simp only [Act.put, List.setIfInBounds_toArray, List.set_cons_zero, List.set_cons_succ]
    refine held_take (i := 4) (d := 10) (oi := _) (v := ?_) rfl rfl (by kernel_rfl) (by kernel_rfl) (by kernel_rfl) (fun _ _ _ h => h) (Or.inl ⟨by rfl, ?_⟩) hS ?_
    rotate_left
    · intro W hW; obtain ⟨s0, s1, s2⟩ := hW; first | (go_simp; done) | (go_simp; with_reducible rfl)
    try simp only [Act.put, List.setIfInBounds_toArray, List.set_cons_zero, List.set_cons_succ]
    refine held_take (i := 5) (d := 11) (oi := _) (v := ?_) rfl rfl (by kernel_rfl) (by kernel_rfl) (by kernel_rfl) (fun _ _ _ h => h) (Or.inl ⟨by rfl, ?_⟩) hS ?_
    rotate_left
    · intro W hW; obtain ⟨s0, s1, s2⟩ := hW; first | (go_simp; done) | (go_simp; with_reducible rfl)
    try simp only [Act.put, List.setIfInBounds_toArray, List.set_cons_zero, List.set_cons_succ]
    have HDD := hide (HD.out.ext (Ext.trans F0.out (Ext.drew w0)))
    have S1 : Hid (([] : List UInt8).length + dn ≤ maxLen) := hide (by simp only [List.length_nil]; unfold maxLen; omega)
    have S2 : Hid ((([] : List UInt8).length + dn) * 1 ≤ 140737488355328) := hide (by simp only [List.length_nil]; omega)
    have S3 : Hid (w0.heap.size ≤ (World.drew w0).heap.size) := hide (Nat.le_refl _)
    refine wpAnyH_ready (rs := [6, 8]) (by kernel_rfl) (by simp) (AllReadyH.cons rfl (fun K hK => ?_) (AllReadyH.cons rfl (fun K hK => ?_) AllReadyH.nil))
    · refine step_append_at rfl _ _ 23 rfl w0.heap.size 5 i0_ _ 1 Tryd.underlying23 hi0 hz0 hz1 hz2 rfl (by omega) len_e8 one_e8 (.slice none 0 0) [] (by rfl) (Own.nil _ _ _ _ _) dA dn dc dat (by simp [Act.eval]) HDD.out S1.out S2.out S3.out ?_
      intro v3 w3 o3 g3 _ _
      simp only [List.nil_append] at o3
      obtain ⟨eA, ec, rfl, ea⟩ := o3.at_ len_e8
      have E3 := hide (grown_ext g3)
      have O3 := hide o3
      have A3 := hide ea
      clear g3 o3 ea
      have hS3 := And.intro (E3.out.cell hS.1) (And.intro (E3.out.cell hS.2.1) (E3.out.cell hS.2.2))
      refine hK.out _ _ hS3 (fun hS => ?_)
      clear hK K
      try simp only [Act.put, List.setIfInBounds_toArray, List.set_cons_zero, List.set_cons_succ]
      refine held_take (i := 7) (d := 13) (oi := _) (v := ?_) rfl rfl (by kernel_rfl) (by kernel_rfl) (by kernel_rfl) (fun _ _ _ h => h) (Or.inl ⟨by rfl, ?_⟩) hS ?_
      rotate_left
      · intro W hW; obtain ⟨s0, s1, s2⟩ := hW; first | (go_simp; done) | (go_simp; with_reducible rfl)
      try simp only [Act.put, List.setIfInBounds_toArray, List.set_cons_zero, List.set_cons_succ]
      refine wpAnyH_ready (rs := [8]) (by kernel_rfl) (by simp) (AllReadyH.cons rfl (fun K hK => ?_) AllReadyH.nil)
      go_simp
      have E4 := hide (Ext.alloc w3 (.cells #[.string ByteArray.empty, .int .i64 0, .slice none 0 0, .slice none 0 0] 39))
      have hS4 := And.intro (E4.out.cell hS.1) (And.intro (E4.out.cell hS.2.1) (E4.out.cell hS.2.2))
      refine hK.out _ _ hS4 (fun hS => ?_)
      clear hK K
      try simp only [Act.put, List.setIfInBounds_toArray, List.set_cons_zero, List.set_cons_succ]
      refine wpAnyH_ready (rs := [9]) (by kernel_rfl) (by simp) (AllReadyH.cons rfl (fun K hK => ?_) AllReadyH.nil)
      go_simp
      refine gen_K fun V hV => ?_
      have EV : Hid (Ext w3 V) := hide (by rw [hV]; exact Ext.alloc _ _)
      have BV : Hid (Blk V w3.heap.size 39 #[.string ⟨xk.toArray⟩, .int .i64 xf, .slice eA dat.length ec, .slice none 0 0]) := hide (by rw [hV]; exact Blk.new _ _ _)
      clear hV hS4
      refine hK.out _ _ (And.intro (EV.out.cell hS3.1) (And.intro (EV.out.cell hS3.2.1) (EV.out.cell hS3.2.2))) (fun hS => ?_)
      clear hK K
      refine wpAnyH_done (by kernel_rfl) ?_ _
      have hlt := O3.out.lt
      have hs3 := E3.out.size
      have FIN : Hid (CpF w0 (W.heap.size + 1) w3.heap.size xk xf dat eA ec (.slice none 0 0) V) := hide ⟨BV.out, A3.out.ext EV.out, fun a ha => by
        subst ha; have h1 := hlt a.block rfl; have h2 := Z0.out; have h4 := EV.out.size; exact ⟨by omega, by omega, by omega⟩, by have h2 := Z0.out; have h3 : w0.heap.size ≤ w3.heap.size := hs3; omega, Ext.trans (Ext.trans (Ext.drew w0) E3.out) EV.out⟩
      clear hlt hs3 hS hS3
      go_wp2_with fail
      go_meet
      exact ⟨_, _, _, rfl, FIN⟩
    · go_simp
      refine gen_K fun V hV => ?_
      have E1 : Hid (Ext w0 V) := hide (by rw [hV]; exact Ext.trans (Ext.drew w0) (Ext.alloc _ _))
      have B1 : Hid (Blk V w0.heap.size 39 #[.string ByteArray.empty, .int .i64 0, .slice none 0 0, .slice none 0 0]) := hide (by rw [hV]; exact Blk.new _ _ _)
      have ZV : Hid (V.heap.size = w0.heap.size + 1) := hide (by rw [hV]; simp)
      have hSV := And.intro (E1.out.cell (Y0.out.cell 0)) (And.intro (E1.out.cell (Y0.out.cell 1)) (E1.out.cell (Y0.out.cell 2)))
      clear hV
      refine hK.out _ _ hSV (fun hS => ?_)
      clear hK K
      try simp only [Act.put, List.setIfInBounds_toArray, List.set_cons_zero, List.set_cons_succ]
      have HDV := hide (HD.out.ext (Ext.trans F0.out E1.out))
      have S3 : Hid (w0.heap.size + 1 ≤ V.heap.size) := hide (by have := ZV.out; omega)
      refine wpAnyH_ready (rs := [6]) (by kernel_rfl) (by simp) (AllReadyH.cons rfl (fun K hK => ?_) AllReadyH.nil)
      refine step_append_at rfl _ _ 23 rfl (w0.heap.size + 1) 5 i0_ _ 1 Tryd.underlying23 hi0 hz0 hz1 hz2 rfl (by omega) len_e8 one_e8 (.slice none 0 0) [] (by rfl) (Own.nil _ _ _ _ _) dA dn dc dat (by simp [Act.eval]) HDV.out S1.out S2.out S3.out ?_
      intro v3 w3 o3 g3 _ _
      simp only [List.nil_append] at o3
      obtain ⟨eA, ec, rfl, ea⟩ := o3.at_ len_e8
      have E3 := hide (grown_ext g3)
      have O3 := hide o3
      have A3 := hide ea
      have B3 := hide (B1.out.ext E3.out)
      clear g3 o3 ea
      have hS3 := And.intro (E3.out.cell hSV.1) (And.intro (E3.out.cell hSV.2.1) (E3.out.cell hSV.2.2))
      refine hK.out _ _ hS3 (fun hS => ?_)
      clear hK K
      try simp only [Act.put, List.setIfInBounds_toArray, List.set_cons_zero, List.set_cons_succ]
      refine held_take (i := 7) (d := 13) (oi := _) (v := ?_) rfl rfl (by kernel_rfl) (by kernel_rfl) (by kernel_rfl) (fun _ _ _ h => h) (Or.inl ⟨by rfl, ?_⟩) hS ?_
      rotate_left
      · intro W hW; obtain ⟨s0, s1, s2⟩ := hW; first | (go_simp; done) | (go_simp; with_reducible rfl)
      try simp only [Act.put, List.setIfInBounds_toArray, List.set_cons_zero, List.set_cons_succ]
      have b0 : w3.cell? ⟨w0.heap.size, 0, none⟩ = some (.string ByteArray.empty) := B3.out.cell 0
      have b1 : w3.cell? ⟨w0.heap.size, 1, none⟩ = some (.int .i64 0) := B3.out.cell 1
      have b2 : w3.cell? ⟨w0.heap.size, 2, none⟩ = some (.slice none 0 0) := B3.out.cell 2
      have b3 : w3.cell? ⟨w0.heap.size, 3, none⟩ = some (.slice none 0 0) := B3.out.cell 3
      have f0 : w3.frozen? ⟨w0.heap.size, 0, none⟩ = false := B3.out.frozen 0
      have f1 : w3.frozen? ⟨w0.heap.size, 1, none⟩ = false := B3.out.frozen 1
      have f2 : w3.frozen? ⟨w0.heap.size, 2, none⟩ = false := B3.out.frozen 2
      have f3 : w3.frozen? ⟨w0.heap.size, 3, none⟩ = false := B3.out.frozen 3
      refine wpAnyH_ready (rs := [9]) (by kernel_rfl) (by simp) (AllReadyH.cons rfl (fun K hK => ?_) AllReadyH.nil)
      go_simp
      refine gen_K fun V2 hV => ?_
      have TV : Hid (Tw w3 V2 w0.heap.size none) := hide (by rw [hV]; exact (((Tw.set_ _ _ _ _ _).trans (Tw.set_ _ _ _ _ _)).trans (Tw.set_ _ _ _ _ _)).trans (Tw.set_ _ _ _ _ _))
      have BV : Hid (Blk V2 w0.heap.size 39 #[.string ⟨xk.toArray⟩, .int .i64 xf, .slice eA dat.length ec, .slice none 0 0]) := hide (by rw [hV]; exact (((B3.out.set_ 0 _).set_ 1 _).set_ 2 _).set_ 3 _)
      have EV : Hid (Ext w0 V2) := hide ((TV.out.of_extL (Ext.trans E1.out E3.out)))
      have hlt := O3.out.lt
      have hz0 := Z0.out
      have AV : Hid (At V2 1 e8 eA dat.length ec dat) := hide (A3.out.tw TV.out (fun a ha => ⟨by subst ha; have h1 := hlt a.block rfl; omega, by simp⟩))
      have FIN : Hid (CpF w0 (W.heap.size + 1) w0.heap.size xk xf dat eA ec (.slice none 0 0) V2) := hide ⟨BV.out, AV.out, fun a ha => by
        subst ha; have h1 := hlt a.block rfl; have h4 := TV.out.size; exact ⟨by omega, by omega, by omega⟩, by omega, EV.out⟩
      clear hV hlt hz0 b0 b1 b2 b3 f0 f1 f2 f3
      refine hK.out _ _ (And.intro (EV.out.cell (Y0.out.cell 0)) (And.intro (EV.out.cell (Y0.out.cell 1)) (EV.out.cell (Y0.out.cell 2)))) (fun hS => ?_)
      clear hK K
      refine wpAnyH_done (by kernel_rfl) ?_ _
      clear hS hS3 hSV
      go_wp2_with fail
      go_meet
      exact ⟨_, _, _, rfl, FIN⟩
  case rest =>
    obtain ⟨ob, eA, ec, rfl, HC⟩ := hcut
    clear HD HDL
    have x3 : wc.cell? ⟨W.heap.size, 3, none⟩ = some (.slice kA kn kc) := HC.out.ext.cell (Y0.out.cell 3)
    have HCA := hide HC.out.apart
    have HCB : Hid (ob < wc.heap.size ∧ W.heap.size + 1 < ob) := hide ⟨HC.out.blk.lt, HC.out.late⟩
    have HCW : Hid (Ext w0 wc) := hide HC.out.ext
    go_wp2_with fail
    go_loopw [17] (fun ri wr => ∃ (k : Nat) (v : Value) (hs : List BoxH), k ≤ kn ∧ ri = .int .i64 k ∧ Hid (CpF w0 (W.heap.size + 1) ob xk xf dat eA ec v wr) ∧ Hid (RwB wr wc.heap.size v hs (l.take k)) ∧ Hid (wc.heap.size ≤ wr.heap.size)) (fun ri _ => kn - (intOf ri).toNat)
    case atStart => exact ⟨0, _, [], by omega, rfl, HC, hide (by rw [List.take_zero]; exact RwB.nil _ _), hide (Nat.le_refl _)⟩
    case round =>
      clear HC x3
      obtain ⟨k, v, hs, hk, rfl, HF, HR, HZ⟩ := hrel
      by_cases hlt : k < kn
      · have hkl : k < l.length := by have := HKL.out; omega
        have hky : k < ys.length := by have := HY.out; omega
        have EW := Ext.trans F0.out HF.out.ext
        have hat := HA.out.ext EW
        have hq := (HH1.out k _ _ (List.getElem?_eq_getElem hky) (List.getElem?_eq_getElem hkl))
        have hr := (HK1.out k _ _ (List.getElem?_eq_getElem hky) (List.getElem?_eq_getElem hkl))
        have hsz := HSZ.out k hkl
        have hsl := HSL.out k hkl
        have HTK1 : Hid (l.take (k + 1) = l.take k ++ [l[k]]) := hide (List.take_succ_eq_append_getElem hkl)
        obtain ⟨b, o, rfl, _⟩ := hat.addr (by omega)
        have gy : ys.getD k default = ys[k] := by simp [List.getD, hky]
        have hlen : hs.length = k := by rw [HR.out.len, List.length_take]; omega
        generalize ys[k] = z at *
        generalize l[k] = u at *
        have a0 : wr.cell? ⟨b, o + k * 4, none⟩ = some (.string ⟨z.kind.toArray⟩) := hat.cellK hlt default 0 _ (by rw [gy]; rfl)
        have a1 : wr.cell? ⟨b, o + k * 4 + 1, none⟩ = some (.int .i64 z.form) := hat.cellK hlt default 1 _ (by rw [gy]; rfl)
        have a2 : wr.cell? ⟨b, o + k * 4 + 2, none⟩ = some (.slice z.dA z.dn z.dc) := hat.cellK hlt default 2 _ (by rw [gy]; rfl)
        have a3 : wr.cell? ⟨b, o + k * 4 + 3, none⟩ = some (.slice z.kA z.kn z.kc) := hat.cellK hlt default 3 _ (by rw [gy]; rfl)
        rw [hq.1] at a0
        rw [hq.2.1] at a1
        have HCC := hide (fun (W' : World) (h : Ext W W') => IH.out _ hsz (Nat.le_refl _) hq hr h hsl)
        have i1 : (k : Int) < (kn : Int) := by omega
        have i0 : (0 : Int) ≤ (k : Int) := by omega
        have i8 : IntKind.i64.wrap ((k : Int) + 1) = (k : Int) + 1 := by rw [IntKind.wrap_i64]; omega
        have HLEN := hide hlen
        clear hat hq hr hsz hsl gy hky hkl hlen EW
        go_upto_region 5 with (fail)
        refine gen_wpC fun w5 h5 => ?_
        obtain ⟨xb, hxb⟩ : ∃ xb, xb = wr.heap.size := ⟨_, rfl⟩
        rw [← hxb]
        have E5 : Hid (Ext wr w5) := hide (by rw [h5]; exact Ext.alloc _ _)
        have HXB := hide hxb
        have X5 : Hid (Blk w5 xb 39 #[.string ⟨u.kind.toArray⟩, .int .i64 u.form, .slice z.dA z.dn z.dc, .slice z.kA z.kn z.kc]) := hide (by rw [h5, hxb]; exact Blk.new _ _ _)
        clear h5 hxb a0 a1 a2 a3
        have EW5 : Hid (Ext W w5) := hide (Ext.trans F0.out (Ext.trans HF.out.ext E5.out))
        have hS0 : ((World.drew w5).cell? ⟨ob, 3, none⟩ = some v) ∧ ((World.drew w5).cell? ⟨xb, 0, none⟩ = some (.string ⟨u.kind.toArray⟩)) ∧ ((World.drew w5).cell? ⟨xb, 1, none⟩ = some (.int .i64 u.form)) ∧ ((World.drew w5).cell? ⟨xb, 2, none⟩ = some (.slice z.dA z.dn z.dc)) ∧ ((World.drew w5).cell? ⟨xb, 3, none⟩ = some (.slice z.kA z.kn z.kc)) :=
          ⟨(Ext.drew _).cell (E5.out.cell (HF.out.blk.cell 3)), (Ext.drew _).cell (X5.out.cell 0), (Ext.drew _).cell (X5.out.cell 1), (Ext.drew _).cell (X5.out.cell 2), (Ext.drew _).cell (X5.out.cell 3)⟩
        have HSX : Hid (∀ W', Ext (World.drew w5) W' → (W'.cell? ⟨ob, 3, none⟩ = some v) ∧ (W'.cell? ⟨xb, 0, none⟩ = some (.string ⟨u.kind.toArray⟩)) ∧ (W'.cell? ⟨xb, 1, none⟩ = some (.int .i64 u.form)) ∧ (W'.cell? ⟨xb, 2, none⟩ = some (.slice z.dA z.dn z.dc)) ∧ (W'.cell? ⟨xb, 3, none⟩ = some (.slice z.kA z.kn z.kc))) := hide (fun W' h => ⟨h.cell hS0.1, h.cell hS0.2.1, h.cell hS0.2.2.1, h.cell hS0.2.2.2.1, h.cell hS0.2.2.2.2⟩)
        refine region_z (S := fun W' => (W'.cell? ⟨ob, 3, none⟩ = some v) ∧ (W'.cell? ⟨xb, 0, none⟩ = some (.string ⟨u.kind.toArray⟩)) ∧ (W'.cell? ⟨xb, 1, none⟩ = some (.int .i64 u.form)) ∧ (W'.cell? ⟨xb, 2, none⟩ = some (.slice z.dA z.dn z.dc)) ∧ (W'.cell? ⟨xb, 3, none⟩ = some (.slice z.kA z.kn z.kc))) 6 (by kernel_rfl) ?_
        refine AnyZ.takeE (i := 0) (d := 21) (oi := _) (v := ?_) rfl rfl rfl (by kernel_rfl) (by kernel_rfl) (by kernel_rfl) (by kernel_rfl) (by kernel_rfl) (by kernel_rfl) (fun _ _ _ h => h) (Or.inl ⟨by rfl, ?_⟩) hS0 ?_
        rotate_left
        · intro W hW; obtain ⟨s0, s1, s2, s3, s4⟩ := hW; first | (go_simp; done) | (go_simp; with_reducible rfl)
        try simp only [Act.put, List.setIfInBounds_toArray, List.set_cons_zero, List.set_cons_succ]
        refine AnyZ.takeE (i := 1) (d := 22) (oi := _) (v := ?_) rfl rfl rfl (by kernel_rfl) (by kernel_rfl) (by kernel_rfl) (by kernel_rfl) (by kernel_rfl) (by kernel_rfl) (fun _ _ _ h => h) (Or.inl ⟨by rfl, ?_⟩) hS0 ?_
        rotate_left
        · intro W hW; obtain ⟨s0, s1, s2, s3, s4⟩ := hW; first | (go_simp; done) | (go_simp; with_reducible rfl)
        try simp only [Act.put, List.setIfInBounds_toArray, List.set_cons_zero, List.set_cons_succ]
        refine AnyZ.takeE (i := 2) (d := 23) (oi := _) (v := ?_) rfl rfl rfl (by kernel_rfl) (by kernel_rfl) (by kernel_rfl) (by kernel_rfl) (by kernel_rfl) (by kernel_rfl) (fun _ _ _ h => h) (Or.inl ⟨by rfl, ?_⟩) hS0 ?_
        rotate_left
        · intro W hW; obtain ⟨s0, s1, s2, s3, s4⟩ := hW; first | (go_simp; done) | (go_simp; with_reducible rfl)
        try simp only [Act.put, List.setIfInBounds_toArray, List.set_cons_zero, List.set_cons_succ]
        refine AnyZ.step (i := 3) rfl (by kernel_rfl) (fun K hK => ?_)
        go_simp
        go_at_call 17
        with_reducible refine (HCC.out _ (Ext.trans EW5.out (Ext.drew w5))).mono ?_
        rintro e w6 ⟨q, rfl, ok6, e6⟩
        have E6 := hide e6
        have OK6 := hide ok6
        have EA := hide (Ext.trans e6 (Ext.alloc w6 (.cells #[.string ⟨q.kind.toArray⟩, .int .i64 q.form, .slice q.dA q.dn q.dc, .slice q.kA q.kn q.kc] 39)))
        clear e6 ok6
        refine hK.out _ _ (fun _ => ?_) ?_
        · exact HSX.out _ E6.out
        clear hK K
        try simp only [Act.put, List.setIfInBounds_toArray, List.set_cons_zero, List.set_cons_succ]
        refine AnyZ.step (i := 4) rfl (by kernel_rfl) (fun K hK => ?_)
        go_simp
        refine hK.out _ _ (fun _ => ?_) ?_
        · exact HSX.out _ EA.out
        clear hK K
        try simp only [Act.put, List.setIfInBounds_toArray, List.set_cons_zero, List.set_cons_succ]
        have ER := hide (Ext.trans (Ext.trans E5.out (Ext.drew w5)) EA.out)
        have OA := hide (HR.out.own.ext ER.out)
        have NA := hide (At.newE (enc := eBx) (sz := 4) w6 q #[.string ⟨q.kind.toArray⟩, .int .i64 q.form, .slice q.dA q.dn q.dc, .slice q.kA q.kn q.kc] 39 rfl)
        have S1 : Hid (hs.length + 1 ≤ maxLen) := hide (by rw [HLEN.out]; unfold maxLen; omega)
        have S2 : Hid ((hs.length + 1) * 72 ≤ 140737488355328) := hide (by rw [HLEN.out]; omega)
        have S3 : Hid (wc.heap.size ≤ (w6.alloc (.cells #[.string ⟨q.kind.toArray⟩, .int .i64 q.form, .slice q.dA q.dn q.dc, .slice q.kA q.kn q.kc] 39)).heap.size) := hide (Nat.le_trans HZ.out ER.out.size)
        refine AnyZ.step (i := 5) rfl (by kernel_rfl) (fun K hK => ?_)
        refine step_append_at rfl _ _ 22 rfl wc.heap.size 39 j0_ _ 72 Tryd.underlying22 hj0 hy0 hy1 hy2 rfl (by omega) len_eBx one_eBx v hs (by rfl) OA.out (some ⟨w6.heap.size, 0, none⟩) 1 1 [q] (by simp [Act.eval]) NA.out S1.out S2.out S3.out ?_
        intro v7 w7 o7 g7 _ r7
        obtain ⟨A7v, c7v, rfl, _⟩ := o7.at_ len_eBx
        simp only [List.length_append, List.length_singleton] at o7 r7
        have O7 := hide o7
        have G7 := hide g7
        have R7 := hide r7
        clear o7 g7 r7
        have hvl := HR.out.own.lt
        have hcb := HCB.out
        have hne : some ob ≠ v.ownBlock := fun e => by have := hvl ob e.symm; omega
        have hnx : some xb ≠ v.ownBlock := fun e => by have := hvl xb e.symm; have := HXB.out; omega
        have HSA := HSX.out _ EA.out
        have HS7 := hide (And.intro (G7.out.cell HSA.1 (by simpa using hne)) (And.intro (G7.out.cell HSA.2.1 (by simpa using hnx)) (And.intro (G7.out.cell HSA.2.2.1 (by simpa using hnx)) (And.intro (G7.out.cell HSA.2.2.2.1 (by simpa using hnx)) (G7.out.cell HSA.2.2.2.2 (by simpa using hnx))))))
        have B7 : Hid (Blk w7 ob 39 #[.string ⟨xk.toArray⟩, .int .i64 xf, .slice eA dat.length ec, v]) := hide ((HF.out.blk.ext ER.out).grown G7.out hne)
        have hca := HCA.out
        have A7 : Hid (At w7 1 e8 eA dat.length ec dat) := hide ((HF.out.dat.ext ER.out).tw (Tw.of_grown (o := (w6.alloc (.cells #[.string ⟨q.kind.toArray⟩, .int .i64 q.form, .slice q.dA q.dn q.dc, .slice q.kA q.kn q.kc] 39)).heap.size) G7.out) (fun a ha => ⟨fun e => by have h1 := (hca a ha).2.2; have h2 := S3.out; rw [e] at h1; omega, fun e => by have h1 := (hca a ha).2.2; have h2 := (hvl _ e.symm).1; omega⟩))
        have RW7 : Hid (RwB w7 wc.heap.size (.slice A7v (hs.length + 1) c7v) (hs ++ [q]) (l.take k ++ [u])) := hide (by
          have hm := HR.out.ext (Ext.trans (Ext.trans E5.out (Ext.drew w5)) E6.out)
          refine hm.snoc OK6.out (fun j hj => ⟨?_, hj.2, fun e => ?_⟩) (Ext.alloc _ _) O7.out G7.out R7.out
          · have h1 := HZ.out; have h2 := E5.out.size; have h3 : w5.heap.size ≤ j := hj.1; omega
          · have h1 := (hvl j e).2; have h2 := E5.out.size; have h3 : w5.heap.size ≤ j := hj.1; omega)
        have EX7 : Hid (Ext w0 w7) := hide (by
          have h0 := Ext.trans HF.out.ext ER.out
          exact Ext.gr h0 G7.out (fun b hb => by have h1 := (hvl b hb).1; have h2 := HCW.out.size; omega))
        have Z7 : Hid (wc.heap.size ≤ w7.heap.size) := hide (Nat.le_trans S3.out G7.out.size)
        clear hvl hne hnx HSA hca hS0
        refine hK.out _ _ (fun _ => ?_) ?_
        · exact HS7.out
        clear hK K
        try simp only [Act.put, List.setIfInBounds_toArray, List.set_cons_zero, List.set_cons_succ]
        refine AnyZ.step (i := 6) rfl (by kernel_rfl) (fun K hK => ?_)
        go_simp
        refine hK.out _ _ (fun h => ?_) ?_
        · exact absurd (h.symm.trans (show _ = true by kernel_rfl)) (by simp)
        clear hK K
        try simp only [Act.put, List.setIfInBounds_toArray, List.set_cons_zero, List.set_cons_succ]
        have x7 : w7.cell? ⟨ob, 3, none⟩ = some v := B7.out.cell 3
        have z7 : w7.frozen? ⟨ob, 3, none⟩ = false := B7.out.frozen 3
        refine AnyZ.step (i := 7) rfl (by kernel_rfl) (fun K hK => ?_)
        go_simp
        refine gen_K fun V hV => ?_
        have FV : Hid (CpF w0 (W.heap.size + 1) ob xk xf dat eA ec (.slice A7v (hs.length + 1) c7v) V) := hide (by
          have hlow := HCB.out
          have hcw := HCW.out.size
          rw [hV]
          refine ⟨B7.out.set_ 3 _, A7.out.tw (Tw.set_ _ _ _ _ none) (fun a ha => ⟨(HCA.out a ha).2.1, by simp⟩), fun a ha => ⟨(HCA.out a ha).1, (HCA.out a ha).2.1, ?_⟩, hlow.2, ?_⟩
          · have h1 := (HCA.out a ha).2.2; have h2 := Z7.out; simp; omega
          · exact (Below.setCell EX7.out (by have := Z0.out; simp; omega) _))
        have RV : Hid (RwB V wc.heap.size (.slice A7v (hs.length + 1) c7v) (hs ++ [q]) (l.take (k + 1))) := hide (by rw [HTK1.out, hV]; exact RW7.out.tw (Tw.set_ _ _ _ _ none) HCB.out.1)
        have ZV : Hid (wc.heap.size ≤ V.heap.size) := hide (by rw [hV]; simp; exact Z7.out)
        clear hV x7 z7
        refine hK.out _ _ (fun h => ?_) ?_
        · exact absurd (h.symm.trans (show _ = true by kernel_rfl)) (by simp)
        clear hK K
        refine AnyZ.done (by kernel_rfl) ?_ _
        clear B7 A7 RW7 EX7 Z7 HS7 G7 O7 R7 S1 S2 S3 NA OA ER EA E6 OK6 HSX EW5 X5 E5 HF HR HZ
        go_wp2_with fail
        exact ⟨⟨k + 1, _, hs ++ [q], by omega, by go_num, FV, RV, ZV⟩, by simp [intOf]; omega⟩
      · obtain rfl : k = kn := by omega
        rw [HTK.out] at HR
        obtain ⟨kA2, kc2, hv2, _⟩ := HR.out.own.at_ len_eBx
        subst hv2
        have HFIN : Hid (BxOk wr (fun q => W.heap.size + 1 < q ∧ q < wr.heap.size) ⟨xk, xf, eA, dat.length, ec, kA2, hs.length, kc2⟩ x) := hide (by
          refine HOK.out _ _ _ rfl rfl HF.out.dat (fun a ha => ?_) (HR.out.at_.good (fun _ _ => rfl) (fun q hq => ⟨?_, hq.2⟩))
          · have h1 := HF.out.apart a ha; exact ⟨h1.1, h1.2.2⟩
          · have h1 := HCB.out; have h2 := hq.1; omega)
        have b0 : wr.cell? ⟨ob, 0, none⟩ = some (.string ⟨xk.toArray⟩) := HF.out.blk.cell 0
        have b1 : wr.cell? ⟨ob, 1, none⟩ = some (.int .i64 xf) := HF.out.blk.cell 1
        have b2 : wr.cell? ⟨ob, 2, none⟩ = some (.slice eA dat.length ec) := HF.out.blk.cell 2
        have b3 : wr.cell? ⟨ob, 3, none⟩ = some (.slice kA2 hs.length kc2) := HF.out.blk.cell 3
        have RR := hide (R0.out.ext HF.out.ext)
        have r0 : wr.cell? ⟨W.heap.size + 1, 0, none⟩ = some (.string ByteArray.empty) := RR.out.cell 0
        have r1 : wr.cell? ⟨W.heap.size + 1, 1, none⟩ = some (.int .i64 0) := RR.out.cell 1
        have r2 : wr.cell? ⟨W.heap.size + 1, 2, none⟩ = some (.slice none 0 0) := RR.out.cell 2
        have r3 : wr.cell? ⟨W.heap.size + 1, 3, none⟩ = some (.slice none 0 0) := RR.out.cell 3
        have f0 : wr.frozen? ⟨W.heap.size + 1, 0, none⟩ = false := RR.out.frozen 0
        have f1 : wr.frozen? ⟨W.heap.size + 1, 1, none⟩ = false := RR.out.frozen 1
        have f2 : wr.frozen? ⟨W.heap.size + 1, 2, none⟩ = false := RR.out.frozen 2
        have f3 : wr.frozen? ⟨W.heap.size + 1, 3, none⟩ = false := RR.out.frozen 3
        clear hlt
        go_wp2_with fail
        refine gen_bod fun V hV => ?_
        have RV : Hid (Blk V (W.heap.size + 1) 39 #[.string ⟨xk.toArray⟩, .int .i64 xf, .slice eA dat.length ec, .slice kA2 hs.length kc2]) := hide (by rw [hV]; exact (((RR.out.set_ 0 _).set_ 1 _).set_ 2 _).set_ 3 _)
        have TV : Hid (Tw wr V (W.heap.size + 1) none) := hide (by rw [hV]; exact (((Tw.set_ _ _ _ _ _).trans (Tw.set_ _ _ _ _ _)).trans (Tw.set_ _ _ _ _ _)).trans (Tw.set_ _ _ _ _ _))
        clear hV b0 b1 b2 b3 r0 r1 r2 r3 f0 f1 f2 f3
        have v0 : V.cell? ⟨W.heap.size + 1, 0, none⟩ = some (.string ⟨xk.toArray⟩) := RV.out.cell 0
        have v1 : V.cell? ⟨W.heap.size + 1, 1, none⟩ = some (.int .i64 xf) := RV.out.cell 1
        have v2 : V.cell? ⟨W.heap.size + 1, 2, none⟩ = some (.slice eA dat.length ec) := RV.out.cell 2
        have v3 : V.cell? ⟨W.heap.size + 1, 3, none⟩ = some (.slice kA2 hs.length kc2) := RV.out.cell 3
        refine bodyPost_ret (v := .agg #[.string ⟨xk.toArray⟩, .int .i64 xf, .slice eA dat.length ec, .slice kA2 hs.length kc2]) (by simp [results, Tryd.results17, go_sem, v0, v1, v2, v3]) rfl ?_
        refine (HGV.out _ _).2 ⟨⟨xk, xf, eA, dat.length, ec, kA2, hs.length, kc2⟩, rfl, ?_, ?_⟩
        · refine HFIN.out.good (G := fun q => W.heap.size + 1 < q ∧ q < wr.heap.size) (fun q hq => TV.out.block q hq.2 (by omega) (by simp)) (fun q hq => ⟨by omega, by have := TV.out.size; omega⟩)
        · have h1 := Ext.trans F0.out HF.out.ext
          exact ⟨TV.out.os.trans h1.os, TV.out.tape.trans h1.tape, TV.out.output.trans h1.output, Nat.le_trans h1.size TV.out.size, fun q hq => (TV.out.block q (Nat.lt_of_lt_of_le hq h1.size) (by omega) (by simp)).trans (h1.block q hq)⟩
theorem cpy_any (s : Nat) : CpyStmt s := by
  induction s using Nat.strongRecOn with
  | _ s ih => exact cpy_step s ih
end Go.Proofs.YtoliplgadhdgbaaDoor
namespace Go.Proofs.YtoliplgadhdgbaaDoor
open Go.Shelf
set_option maxRecDepth 100000
def splRen : Ren := { f := fun | 138 => 35 | 143 => 36 | 146 => 15 | 195 => 38 | 197 => 39 | 217 => 44 | 218 => 40 | 219 => 41 | 221 => 27 | 224 => 46 | 225 => 45 | 260 => 43 | 266 => 49 | 267 => 47 | 268 => 34 | 314 => 50 | n => n, t := fun | 0 => 0 | 1 => 1 | 2 => 2 | 3 => 3 | 4 => 4 | 5 => 5 | 6 => 6 | 7 => 7 | 8 => 8 | 9 => 9 | 10 => 10 | 11 => 11 | 12 => 12 | 13 => 13 | 14 => 14 | 15 => 15 | 16 => 16 | 17 => 17 | 18 => 18 | 19 => 19 | 20 => 20 | 21 => 21 | 27 => 65 | 31 => 35 | 37 => 23 | 38 => 29 | 41 => 55 | 46 => 77 | 51 => 83 | 53 => 62 | 55 => 73 | 61 => 36 | 68 => 41 | 80 => 86 | 81 => 92 | 103 => 70 | 104 => 37 | 105 => 71 | 106 => 72 | 113 => 54 | 114 => 76 | 119 => 79 | 127 => 96 | 137 => 80 | 138 => 81 | 139 => 82 | 146 => 84 | 150 => 64 | 151 => 85 | 164 => 101 | 177 => 63 | 238 => 87 | 239 => 88 | 240 => 89 | 241 => 90 | 242 => 91 | 243 => 93 | 244 => 94 | 245 => 95 | 246 => 97 | 247 => 98 | 248 => 99 | 249 => 100 | n => n, g := fun | 1 => 0 | 3 => 1 | 4 => 2 | n => n }
theorem splLays : Lays.n146 Tryd.prog splRen := {
  mixed := by kernel_rfl
  f138 := Tryd.func35.trans (congrArg some (by kernel_rfl))
  f143 := Tryd.func36.trans (congrArg some (by kernel_rfl))
  f146 := Tryd.func15.trans (congrArg some (by kernel_rfl))
  f195 := Tryd.func38.trans (congrArg some (by kernel_rfl))
  f197 := Tryd.func39.trans (congrArg some (by kernel_rfl))
  f217 := Tryd.func44.trans (congrArg some (by kernel_rfl))
  f218 := Tryd.func40.trans (congrArg some (by kernel_rfl))
  f219 := Tryd.func41.trans (congrArg some (by kernel_rfl))
  f221 := Tryd.func27.trans (congrArg some (by kernel_rfl))
  f224 := Tryd.func46.trans (congrArg some (by kernel_rfl))
  f225 := Tryd.func45.trans (congrArg some (by kernel_rfl))
  f260 := Tryd.func43.trans (congrArg some (by kernel_rfl))
  f266 := Tryd.func49.trans (congrArg some (by kernel_rfl))
  f267 := Tryd.func47.trans (congrArg some (by kernel_rfl))
  f268 := Tryd.func34.trans (congrArg some (by kernel_rfl))
  f314 := Tryd.func50.trans (congrArg some (by kernel_rfl))
  t0 := Tryd.underlying0
  a0 := Tryd.isAgg0
  z0 := Tryd.sizeOf0
  v0 := Tryd.zeroValue0
  t3 := Tryd.underlying3
  a3 := Tryd.isAgg3
  z3 := Tryd.sizeOf3
  v3 := Tryd.zeroValue3
  t4 := Tryd.underlying4
  a4 := Tryd.isAgg4
  z4 := Tryd.sizeOf4
  v4 := Tryd.zeroValue4
  t5 := Tryd.underlying5
  a5 := Tryd.isAgg5
  z5 := Tryd.sizeOf5
  v5 := Tryd.zeroValue5
  t9 := Tryd.underlying9
  a9 := Tryd.isAgg9
  z9 := Tryd.sizeOf9
  v9 := Tryd.zeroValue9
  t21 := Tryd.underlying21
  a21 := Tryd.isAgg21
  z21 := Tryd.sizeOf21
  v21 := Tryd.zeroValue21
  t31 := Tryd.underlying35
  a31 := Tryd.isAgg35
  z31 := Tryd.sizeOf35
  v31 := Tryd.zeroValue35
  t46 := Tryd.underlying77
  a46 := Tryd.isAgg77
  z46 := Tryd.sizeOf77
  v46 := Tryd.zeroValue77
  t51 := Tryd.underlying83
  a51 := Tryd.isAgg83
  z51 := Tryd.sizeOf83
  v51 := Tryd.zeroValue83
  t105 := Tryd.underlying71
  a105 := Tryd.isAgg71
  z105 := Tryd.sizeOf71
  v105 := Tryd.zeroValue71
  t119 := Tryd.underlying79
  a119 := Tryd.isAgg79
  z119 := Tryd.sizeOf79
  t138 := Tryd.underlying81
  a138 := Tryd.isAgg81
  z138 := Tryd.sizeOf81
  v138 := Tryd.zeroValue81
  t139 := Tryd.underlying82
  a139 := Tryd.isAgg82
  z139 := Tryd.sizeOf82
  v139 := Tryd.zeroValue82
  t146 := Tryd.underlying84
  a146 := Tryd.isAgg84
  z146 := Tryd.sizeOf84
  v146 := Tryd.zeroValue84
  g1 := by kernel_rfl
  g3 := by kernel_rfl
  g4 := by kernel_rfl }
end Go.Proofs.YtoliplgadhdgbaaDoor
namespace Go.Proofs.YtoliplgadhdgbaaDoor
open Go.RowKit
theorem split_cells (l : List ByteArray) : ((l.map (·.data.toList)).flatMap eSt) = (l.map Value.string) := by
  induction l with
  | nil => rfl
  | cons x r ih => rw [List.map_cons, List.flatMap_cons, ih, List.map_cons]; rfl
theorem split_any (s : ByteArray) (w : World) (hs : s.size < 4294967281) (m : Int) (hm : w.cell? ⟨0, 0, none⟩ = some (.int .i64 m)) :
    Calls Tryd.prog 15 #[.string s, .string ⟨#[47]⟩] w fun e w' => ∃ A c, e = .returned (.slice A (prtL s.data.toList).length c) ∧ At w' 1 eSt A (prtL s.data.toList).length c (prtL s.data.toList) ∧ Ext w w' := by
  have hc := Any.strings_Split splLays (by kernel_rfl) s ⟨#[47]⟩ m w hs hm (by decide)
  have h1 := Go.Lib.splitB_all ⟨#[47]⟩ (by decide) 0 _ s rfl
  have h2 := Go.Lib.splitB_data ⟨#[47]⟩ 0 (Go.Lib.countB s ⟨#[47]⟩) s
  have h3 := split_prt s.data.toList
  have h4 : (Go.Lib.splitB ⟨#[47]⟩ 0 (Go.Lib.countB s ⟨#[47]⟩) s).map (·.data.toList) = prtL s.data.toList := by rw [h2]; exact h3
  have h5 : (prtL s.data.toList).length = Go.Lib.countB s ⟨#[47]⟩ + 1 := by rw [← h4, List.length_map, h1]
  have h6 := split_cells (Go.Lib.splitB ⟨#[47]⟩ 0 (Go.Lib.countB s ⟨#[47]⟩) s)
  rw [h4] at h6
  have hsz : s.data.toList.length = s.size := by simp
  have h7 := prtL_le s.data.toList
  refine Calls.mono hc fun e w' ⟨he, hw⟩ => ?_
  subst hw
  have h8 := World.ownsRow_lit (base := w.heap.size) (size := 1) (e := splRen.t 9) w ((Go.Lib.splitB ⟨#[47]⟩ 0 (Go.Lib.countB s ⟨#[47]⟩) s).map Value.string).toArray (Go.Lib.countB s ⟨#[47]⟩ + 1) (Nat.le_refl _) (by unfold maxLen; omega) (by simp [h1])
  have h9 : Own (w.alloc (.cells ((Go.Lib.splitB ⟨#[47]⟩ 0 (Go.Lib.countB s ⟨#[47]⟩) s).map Value.string).toArray (splRen.t 9))) w.heap.size (splRen.t 9) 1 eSt (.slice (some ⟨w.heap.size, 0, none⟩) (prtL s.data.toList).length (prtL s.data.toList).length) (prtL s.data.toList) := by
    unfold Own
    rw [h6, h5]
    exact h8
  exact ⟨_, _, by rw [he, h5], h9.atS len_eSt, Ext.alloc _ _⟩
end Go.Proofs.YtoliplgadhdgbaaDoor
namespace Go.Proofs.YtoliplgadhdgbaaDoor
open Go.RowKit
set_option linter.unusedVariables false in
set_option maxRecDepth 100000 in
set_option maxHeartbeats 8000000 in
theorem keyFind_any {l : List BoxT} {w : World} {G : Nat → Prop} {A : Option Addr} {n c : Nat} (h : BxsAt w G A n c l) (hb : bndL 140737488355328 l) (s : ByteArray) (hs : s.size < 4294967281) (mx : Int) (hmx : w.cell? ⟨0, 0, none⟩ = some (.int .i64 mx)) :
    Calls Tryd.prog 6 #[.slice A n c, .string s] w (FnGives (prtL s.data.toList) l w) := by
  have HF := hide (boxesFault_any h hb)
  have HP := hide (fun (W : World) (hW : Ext w W) => split_any s W hs mx (hW.cell hmx))
  have HH := hide h
  have HKL : Hid (∀ k, k ∈ prtL s.data.toList → k.length ≤ 4294967281) := hide (fun k hk => by
    have h1 := prtL_short s.data.toList _ hk
    have h2 : s.data.toList.length = s.size := by simp
    omega)
  have hk0 := prtL_pos s.data.toList
  have hk1 := prtL_le s.data.toList
  have hk2 : s.data.toList.length = s.size := by simp
  have hk3 : (prtL s.data.toList).length ≤ 4294967282 := by omega
  have HV : Hid (fnF (prtL s.data.toList) l = if bfF l ≠ 0 then bfF l else if kindsB (prtL s.data.toList) = false then 5 else 0) := hide rfl
  have HCN := hide (fun (hz : bfF l = 0) => cnt_bf hz)
  have HSB := hide (fun (hz : bfF l = 0) => (bfF_zero hz).2.1)
  clear h hb hk1 hk2 hmx
  generalize prtL s.data.toList = ks at *
  go_enter Tryd.func6, Tryd.ntmps6
  go_wp2_with fail
  with_reducible refine HF.out.mono ?_
  rintro e w1 ⟨rfl, e1⟩
  have E1 := hide e1
  clear e1 HF
  by_cases hz : bfF l = 0
  rotate_left
  · have HQ : Hid (fnF ks l = bfF l) := hide (by rw [HV.out, if_pos hz])
    have d0 : (bfF l != 0) = true := by simp [hz]
    have HZ := hide hz
    clear hz HV
    generalize bfF l = f at *
    go_wp2_with fail
    go_ret2
    exact FnGives.bad E1.out HQ.out HZ.out
  have HVK : Hid (fnF ks l = if kindsB ks = false then 5 else 0) := hide (by rw [HV.out, if_neg (by simp [hz])])
  have hcn := HCN.out hz
  have HSZ : Hid (sizeL (fndL ks l) ≤ 1000000) := hide (Nat.le_trans (sizeL_fnd ks l) (HSB.out hz))
  rw [hz]
  clear HV HCN hz HSB
  go_wp2_with fail
  with_reducible refine (HP.out _ E1.out).mono ?_
  rintro e w2 ⟨kA, kc, rfl, ka, e2⟩
  have E2 := hide (Ext.trans E1.out e2)
  have KA := hide ka
  have hkb := ka.bound
  obtain ⟨kb, ko, rfl, hxx⟩ := ka.addr hk0
  clear hxx
  clear ka e2 HP E1
  generalize hm : ks.length = m at *
  have HM := hide hm
  clear hm
  go_wp2_with fail
  go_loop [30] (fun ri => ∃ i : Nat, i ≤ m ∧ ri = .int .i64 i ∧ Hid (kindsB (ks.take i) = true)) (fun ri => m - (intOf ri).toNat)
  case atStart => exact ⟨0, by omega, rfl, hide (by simp [kindsB])⟩
  case round =>
    obtain ⟨i, hi, rfl, HK⟩ := hrel
    by_cases hlt : i < m
    · have hik : i < ks.length := by have := HM.out; omega
      have a0 : w2.cell? ⟨kb, ko + i, none⟩ = some (.string ⟨ks[i].toArray⟩) := by
        have h1 := KA.out.cellK (k := i) hlt [] 0 _ rfl
        simpa [List.getD, hik] using h1
      have HC := hide (isKindL ks[i] (by have := HKL.out _ (List.getElem_mem hik); unfold maxLen; omega))
      have HNO := hide (fun hb => kindsB_no (i := i) hik hb)
      have HYE := hide (kindsB_take (i := i) hik)
      generalize ks[i] = kk at *
      have i1 : (i : Int) < (m : Int) := by omega
      cases hib : isKindB kk with
      | false =>
        have HQ : Hid (fnF ks l = 5) := hide (by rw [HVK.out, if_pos (HNO.out hib)])
        rw [hib] at HC
        clear hib hik
        go_wp2_with fail
        with_reducible refine (HC.out _).mono ?_
        rintro e w' ⟨rfl, rfl⟩
        go_wp2_with fail
        go_ret2
        exact FnGives.bad E2.out HQ.out (by omega)
      | true =>
        have HK2 : Hid (kindsB (ks.take (i + 1)) = true) := hide (by rw [HYE.out, HK.out, hib]; rfl)
        rw [hib] at HC
        clear hib hik
        go_wp2_with fail
        with_reducible refine (HC.out _).mono ?_
        rintro e w' ⟨rfl, rfl⟩
        go_wp2_with fail
        go_round
        case rel => exact ⟨i + 1, by omega, by go_num, HK2⟩
        case measure => simp [intOf]; omega
    · obtain rfl : i = m := by omega
      have HQ : Hid (fnF ks l = 0) := hide (by rw [HVK.out, if_neg (by have := HK.out; rw [← HM.out, List.take_length] at this; rw [this]; simp)])
      clear HK hlt HVK HKL
      go_wp2_with fail
      go_loopw [0, 40] (fun r0 ri wr => ∃ (j : Nat) (B : Option Addr) (bn bc : Nat), r0 = .slice B bn bc ∧ j < i ∧ ri = .int .i64 j ∧ Hid (BxsAt wr GT B bn bc (lvlL ks l j)) ∧ Hid (Ext w2 wr)) (fun _ ri _ => i - (intOf ri).toNat)
      case atStart => exact ⟨0, A, n, c, rfl, hk0, rfl, hide ((HH.out.ext E2.out).good (fun _ _ => rfl) (fun _ _ => trivial)), hide (Ext.refl _)⟩
      case round =>
        obtain ⟨j, B, bn, bc, rfl, hlt, rfl, HB, HX⟩ := hrel
        obtain ⟨wo, hwo⟩ : ∃ wo, wo = wr := ⟨_, rfl⟩
        subst hwo
        have hjk : j < ks.length := by have := HM.out; omega
        have hbl := HB.out.len
        have hcl := lvl_len ks l j
        have HF1 : Hid (∀ q, (fltL (ks.getD j []) ((lvlL ks l j).take q)).length ≤ 2000) := hide (fun q => by
          have h1 := cntL_len (fltL (ks.getD j []) ((lvlL ks l j).take q))
          have h2 := cntL_flt (ks.getD j []) ((lvlL ks l j).take q)
          have h3 := cntL_take (lvlL ks l j) q
          have h4 := cntL_lvl ks l j
          omega)
        have HK1 : Hid (∀ q, (kidsL ((fltL (ks.getD j []) (lvlL ks l j)).take q)).length ≤ 2000) := hide (fun q => by have := kids_len (ks.getD j []) ks l j q; omega)
        have HNX : Hid (lvlL ks l (j + 1) = kidsL (fltL (ks.getD j []) (lvlL ks l j))) := hide rfl
        have HLA : Hid (j + 1 = i → fndL ks l = fltL (ks.getD j []) (lvlL ks l j)) := hide (fun h => by unfold fndL; have := HM.out; rw [show ks.length - 1 = j by omega])
        obtain ⟨hs, ha, hp⟩ := HB.out.pr
        have HA := hide ha
        have HPK := hide hp
        have hhl := hp.1
        have kcell := (KA.out.ext HX.out).cellK (k := j) (by omega) [] 0 _ rfl
        simp only [Nat.mul_one, Nat.add_zero] at kcell
        clear ha hp hjk
        generalize ks.getD j [] = kd at *
        generalize lvlL ks l j = L at *
        have hbb := HA.out.bound
        have i1 : (j : Int) < (i : Int) := by omega
        have i0 : (0 : Int) ≤ (j : Int) := by omega
        have i8 : IntKind.i64.wrap ((j : Int) + 1) = (j : Int) + 1 := by rw [IntKind.wrap_i64]; omega
        have i9 : IntKind.i64.wrap ((i : Int) - 1) = (i : Int) - 1 := by rw [IntKind.wrap_i64]; omega
        obtain ⟨i0_, hi0, hz0, hz1, hz2⟩ := info_parts Tryd.info39
        go_wp2_with fail
        clear kcell
        go_loopw [12, 47] (fun r12 rk wr => ∃ (q : Nat) (v : Value) (ys : List BoxH), v = r12 ∧ q ≤ bn ∧ rk = .int .i64 q ∧ Hid (Own wr wo.heap.size 39 4 eBx v ys) ∧ Hid (PrOk wo ys (fltL kd (L.take q))) ∧ Hid (Ext wo wr)) (fun _ rk _ => bn - (intOf rk).toNat)
        case atStart => exact ⟨0, _, [], rfl, by omega, rfl, hide (Own.nil _ _ _ _ _), hide (by simp [fltL]; exact PrOk.nil _), hide (Ext.refl _)⟩
        case round =>
          obtain ⟨q, v, ys, rfl, hq, rfl, HO, HPY, HY⟩ := hrel
          by_cases hql : q < bn
          · have hqL : q < L.length := by omega
            have hqh : q < hs.length := by omega
            obtain ⟨b, o, rfl, _⟩ := HA.out.addr (by omega)
            have EY := HY.out
            have hat := HA.out.ext EY
            have gy : hs.getD q default = hs[q] := by simp [List.getD, hqh]
            have hq1 := HPK.out.2 q _ _ (List.getElem?_eq_getElem hqh) (List.getElem?_eq_getElem hqL)
            have HU : Hid (fltL kd (L.take (q + 1)) = if L[q].kind = kd then fltL kd (L.take q) ++ [L[q]] else fltL kd (L.take q)) := hide (fltL_take hqL)
            have HF1q := HF1.out (q + 1)
            have hpl := HPY.out.1
            generalize hs[q] = z at *
            generalize L[q] = u at *
            have a0 : wr.cell? ⟨b, o + q * 4, none⟩ = some (.string ⟨z.kind.toArray⟩) := hat.cellK hql default 0 _ (by rw [gy]; rfl)
            have a1 : wr.cell? ⟨b, o + q * 4 + 1, none⟩ = some (.int .i64 z.form) := hat.cellK hql default 1 _ (by rw [gy]; rfl)
            have a2 : wr.cell? ⟨b, o + q * 4 + 2, none⟩ = some (.slice z.dA z.dn z.dc) := hat.cellK hql default 2 _ (by rw [gy]; rfl)
            have a3 : wr.cell? ⟨b, o + q * 4 + 3, none⟩ = some (.slice z.kA z.kn z.kc) := hat.cellK hql default 3 _ (by rw [gy]; rfl)
            have HQ1 := hide hq1
            have HZK : Hid (z.kind = u.kind) := hide hq1.1.1
            have j1 : (q : Int) < (bn : Int) := by omega
            have j0 : (0 : Int) ≤ (q : Int) := by omega
            have j8 : IntKind.i64.wrap ((q : Int) + 1) = (q : Int) + 1 := by rw [IntKind.wrap_i64]; omega
            go_upto_region 18 with (fail)
            refine gen_wpC fun w5 h5 => ?_
            obtain ⟨xb, hxb⟩ : ∃ xb, xb = wr.heap.size := ⟨_, rfl⟩
            rw [← hxb]
            have E5 : Hid (Ext wo w5) := hide (by rw [h5]; exact Ext.trans EY (Ext.alloc _ _))
            have O5 : Hid (Own w5 wo.heap.size 39 4 eBx v ys) := hide (by rw [h5]; exact HO.out.ext (Ext.alloc _ _))
            have X5 : Hid (Blk w5 xb 39 #[.string ⟨z.kind.toArray⟩, .int .i64 z.form, .slice z.dA z.dn z.dc, .slice z.kA z.kn z.kc]) := hide (by rw [h5, hxb]; exact Blk.new _ _ _)
            clear h5 hxb a0 a1 a2 a3 HO HY EY
            have x0 : w5.cell? ⟨xb, 0, none⟩ = some (.string ⟨z.kind.toArray⟩) := X5.out.cell 0
            have x1 : w5.cell? ⟨xb, 1, none⟩ = some (.int .i64 z.form) := X5.out.cell 1
            have x2 : w5.cell? ⟨xb, 2, none⟩ = some (.slice z.dA z.dn z.dc) := X5.out.cell 2
            have x3 : w5.cell? ⟨xb, 3, none⟩ = some (.slice z.kA z.kn z.kc) := X5.out.cell 3
            by_cases hkk : u.kind = kd
            · have dk : (z.kind == kd) = true := by rw [HZK.out, hkk]; simp
              rw [if_pos hkk] at HU
              rw [HU.out] at HF1q
              simp only [List.length_append, List.length_singleton] at HF1q
              have S1 : Hid (ys.length + 1 ≤ maxLen) := hide (by unfold maxLen; omega)
              have S2 : Hid ((ys.length + 1) * 72 ≤ 140737488355328) := hide (by omega)
              have EA : Hid (Ext wo (w5.alloc (.cells #[.string ⟨z.kind.toArray⟩, .int .i64 z.form, .slice z.dA z.dn z.dc, .slice z.kA z.kn z.kc] 39))) := hide (Ext.trans E5.out (Ext.alloc _ _))
              have OA : Hid (Own (w5.alloc (.cells #[.string ⟨z.kind.toArray⟩, .int .i64 z.form, .slice z.dA z.dn z.dc, .slice z.kA z.kn z.kc] 39)) wo.heap.size 39 4 eBx v ys) := hide (O5.out.ext (Ext.alloc _ _))
              have NA : Hid (At (w5.alloc (.cells #[.string ⟨z.kind.toArray⟩, .int .i64 z.form, .slice z.dA z.dn z.dc, .slice z.kA z.kn z.kc] 39)) 4 eBx (some ⟨w5.heap.size, 0, none⟩) 1 1 [z]) := hide (At.newE (enc := eBx) (sz := 4) w5 z _ _ rfl)
              have HN2 : Hid (PrOk wo (ys ++ [z]) (fltL kd (L.take (q + 1)))) := hide (by rw [HU.out]; exact HPY.out.app (PrOk.one HQ1.out.1 HQ1.out.2))
              clear hkk HU hq1 hat gy hpl HF1q
              go_wp2_with (at_builtin; refine wpList_append_at _ rfl (.tmp 55) (.tmp 57) 22 rfl wo.heap.size 39 i0_ _ 72 Tryd.underlying22 hi0 hz0 hz1 hz2 rfl (by omega) len_eBx one_eBx _ _ (by rfl) OA.out (some ⟨w5.heap.size, 0, none⟩) 1 1 [z] (by rfl) NA.out S1.out S2.out EA.out.size ?_; intro v7 w7 o7 g7 _ _; have O7 := hide o7; have E7 : Hid (Ext wo w7) := hide (OA.out.below EA.out g7 (Nat.le_refl _)); clear o7 g7)
              exact ⟨⟨q + 1, _, _, rfl, by omega, by go_num, O7, HN2, E7⟩, by simp [intOf]; omega⟩
            · have dk : (z.kind == kd) = false := by rw [HZK.out, beq_eq_false_iff_ne]; exact hkk
              rw [if_neg hkk] at HU
              have HN2 : Hid (PrOk wo ys (fltL kd (L.take (q + 1)))) := hide (by rw [HU.out]; exact HPY.out)
              clear hkk HU hq1 hat gy hpl HF1q
              go_wp2_with fail
              exact ⟨⟨q + 1, _, _, rfl, by omega, by go_num, O5, HN2, E5⟩, by simp [intOf]; omega⟩
          · obtain rfl : q = bn := by omega
            have HFN : Hid (∃ vA vc, v = .slice vA ys.length vc ∧ BxsAt wr GT vA ys.length vc (fltL kd L)) := hide (by
              obtain ⟨vA, vc, hv, hva⟩ := HO.out.at_ len_eBx
              refine ⟨vA, vc, hv, ?_⟩
              have hpk := HPY.out
              rw [show L.take q = L from by rw [← hbl, List.take_length]] at hpk
              exact (hpk.ext HY.out).at_ hva)
            have HXX := hide (Ext.trans HX.out HY.out)
            obtain ⟨vA, vc, hv, hb2⟩ := HFN.out
            subst hv
            have HB2 := hide hb2
            obtain ⟨w3, hw3⟩ : ∃ w3, w3 = wr := ⟨_, rfl⟩
            subst hw3
            clear hb2 HFN hql HO HPY HY HPK HA hhl HF1
            generalize ys.length = yn at *
            by_cases hlast : j + 1 = i
            · have HBE : Hid (BxsAt w3 GT vA yn vc (fndL ks l)) := hide (by rw [HLA.out hlast]; exact HB2.out)
              have d1 : ((j : Int) == (i : Int) - 1) = true := by rw [beq_iff_eq]; omega
              clear hlast HLA HNX HK1 HB2 HB hbl hcl hbb
              have hyl := HBE.out.len
              obtain ⟨hs2, ha2, hp2⟩ := HBE.out.pr
              have HA2 := hide ha2
              have HPK2 := hide hp2
              have hhl2 := hp2.1
              have hbb2 := ha2.bound
              have HSL : Hid (∀ (k : Nat) (h : k < (fndL ks l).length), sizeT (fndL ks l)[k] ≤ 1000000) := hide (fun k h => by have h1 := sizeL_take h; have h2 := sizeL_le (fndL ks l) (k + 1); have := HSZ.out; omega)
              have hyl2 : yn ≤ 1000000 := by have h1 := sizeL_len (fndL ks l); have := HSZ.out; omega
              have HTK : Hid ((fndL ks l).take yn = fndL ks l) := hide (by rw [← hyl, List.take_length])
              have HTS : Hid (∀ (k : Nat) (h : k < (fndL ks l).length), (fndL ks l).take (k + 1) = (fndL ks l).take k ++ [(fndL ks l)[k]]) := hide (fun k h => List.take_succ_eq_append_getElem h)
              have HGV : Hid (∀ (w' : World) (A : Option Addr) (n c : Nat), Ext w w' → BxsAt w' GT A n c (fndL ks l) → FnGives ks l w (.returned (.tuple #[.slice A n c, .int .i64 0])) w') := hide (fun w' A n c h1 h2 => FnGives.ok h1 HQ.out h2)
              clear ha2 hp2 HSZ HBE
              generalize fndL ks l = L2 at *
              go_wp2_with fail
              go_loopw [18, 81] (fun r18 rk wr => ∃ (q : Nat) (v : Value) (ys : List BoxH), v = r18 ∧ q ≤ yn ∧ rk = .int .i64 q ∧ Hid (RwB wr w3.heap.size v ys (L2.take q)) ∧ Hid (Ext w3 wr)) (fun _ rk _ => yn - (intOf rk).toNat)
              case atStart => exact ⟨0, _, [], rfl, by omega, rfl, hide (by rw [List.take_zero]; exact RwB.nil _ _), hide (Ext.refl _)⟩
              case round =>
                obtain ⟨q2, v, ys, rfl, hq2, rfl, HR, HY⟩ := hrel
                by_cases hql : q2 < yn
                · have hqL : q2 < L2.length := by omega
                  have hqh : q2 < hs2.length := by omega
                  obtain ⟨b, o, rfl, _⟩ := HA2.out.addr (by omega)
                  have EY := HY.out
                  have hat := HA2.out.ext EY
                  have gy : hs2.getD q2 default = hs2[q2] := by simp [List.getD, hqh]
                  have hq1 := HPK2.out.2 q2 _ _ (List.getElem?_eq_getElem hqh) (List.getElem?_eq_getElem hqL)
                  have HTS1 := hide (HTS.out q2 hqL)
                  have hsl := HSL.out q2 hqL
                  have hyn : ys.length = q2 := by rw [HR.out.len, List.length_take]; omega
                  generalize hs2[q2] = z at *
                  generalize L2[q2] = u at *
                  have a0 : wr.cell? ⟨b, o + q2 * 4, none⟩ = some (.string ⟨z.kind.toArray⟩) := hat.cellK hql default 0 _ (by rw [gy]; rfl)
                  have a1 : wr.cell? ⟨b, o + q2 * 4 + 1, none⟩ = some (.int .i64 z.form) := hat.cellK hql default 1 _ (by rw [gy]; rfl)
                  have a2 : wr.cell? ⟨b, o + q2 * 4 + 2, none⟩ = some (.slice z.dA z.dn z.dc) := hat.cellK hql default 2 _ (by rw [gy]; rfl)
                  have a3 : wr.cell? ⟨b, o + q2 * 4 + 3, none⟩ = some (.slice z.kA z.kn z.kc) := hat.cellK hql default 3 _ (by rw [gy]; rfl)
                  rw [hq1.1.1] at a0
                  rw [hq1.1.2.1] at a1
                  have HCC := hide (fun (W' : World) (h : Ext w3 W') => cpy_any _ (Nat.le_refl _) hq1.1 hq1.2 h hsl)
                  have j1 : (q2 : Int) < (yn : Int) := by omega
                  have j0 : (0 : Int) ≤ (q2 : Int) := by omega
                  have j8 : IntKind.i64.wrap ((q2 : Int) + 1) = (q2 : Int) + 1 := by rw [IntKind.wrap_i64]; omega
                  have S1 : Hid (ys.length + 1 ≤ maxLen) := hide (by rw [hyn]; unfold maxLen; omega)
                  have S2 : Hid ((ys.length + 1) * 72 ≤ 140737488355328) := hide (by rw [hyn]; omega)
                  clear hq1 hat gy hyn hsl
                  go_upto_region 35 with (fail)
                  refine gen_wpC fun w5 h5 => ?_
                  obtain ⟨xb, hxb⟩ : ∃ xb, xb = wr.heap.size := ⟨_, rfl⟩
                  rw [← hxb]
                  have E5 : Hid (Ext wr w5) := hide (by rw [h5]; exact Ext.alloc _ _)
                  have X5 : Hid (Blk w5 xb 39 #[.string ⟨u.kind.toArray⟩, .int .i64 u.form, .slice z.dA z.dn z.dc, .slice z.kA z.kn z.kc]) := hide (by rw [h5, hxb]; exact Blk.new _ _ _)
                  clear h5 hxb a0 a1 a2 a3 EY
                  have x0 : w5.cell? ⟨xb, 0, none⟩ = some (.string ⟨u.kind.toArray⟩) := X5.out.cell 0
                  have x1 : w5.cell? ⟨xb, 1, none⟩ = some (.int .i64 u.form) := X5.out.cell 1
                  have x2 : w5.cell? ⟨xb, 2, none⟩ = some (.slice z.dA z.dn z.dc) := X5.out.cell 2
                  have x3 : w5.cell? ⟨xb, 3, none⟩ = some (.slice z.kA z.kn z.kc) := X5.out.cell 3
                  go_wp2_with fail
                  with_reducible refine (HCC.out _ (Ext.trans HY.out E5.out)).mono ?_
                  rintro e w6 ⟨p, rfl, ok6, e6⟩
                  have OK6 := hide ok6
                  have E6 := hide (Ext.trans E5.out e6)
                  have EC6 := hide e6
                  have EA := hide (Ext.trans HY.out (Ext.trans E6.out (Ext.alloc w6 (.cells #[.string ⟨p.kind.toArray⟩, .int .i64 p.form, .slice p.dA p.dn p.dc, .slice p.kA p.kn p.kc] 39))))
                  have OA := hide (HR.out.own.ext (Ext.trans E6.out (Ext.alloc w6 (.cells #[.string ⟨p.kind.toArray⟩, .int .i64 p.form, .slice p.dA p.dn p.dc, .slice p.kA p.kn p.kc] 39))))
                  have NA := hide (At.newE (enc := eBx) (sz := 4) w6 p #[.string ⟨p.kind.toArray⟩, .int .i64 p.form, .slice p.dA p.dn p.dc, .slice p.kA p.kn p.kc] 39 rfl)
                  clear ok6 e6 x0 x1 x2 x3
                  go_wp2_with (at_builtin; refine wpList_append_at _ rfl (.tmp 85) (.tmp 88) 22 rfl w3.heap.size 39 i0_ _ 72 Tryd.underlying22 hi0 hz0 hz1 hz2 rfl (by omega) len_eBx one_eBx _ _ (by rfl) OA.out (some ⟨w6.heap.size, 0, none⟩) 1 1 [p] (by rfl) NA.out S1.out S2.out EA.out.size ?_; intro v7 w7 o7 g7 _ r7; have O7 := hide o7; have G7 := hide g7; have R7 := hide r7; have E7 : Hid (Ext w3 w7) := hide (OA.out.below EA.out g7 (Nat.le_refl _)); clear o7 g7 r7)
                  have RW7 : Hid (RwB w7 w3.heap.size v7 (ys ++ [p]) (L2.take (q2 + 1))) := hide (by
                    rw [HTS1.out]
                    have hm := HR.out.ext E6.out
                    have hvl := HR.out.own.lt
                    have h2 := E5.out.size
                    have h4 := HY.out.size
                    refine hm.snoc OK6.out (fun j hj => ⟨?_, hj.2, fun e => ?_⟩) (Ext.alloc _ _) O7.out G7.out R7.out
                    · have h3 : w5.heap.size ≤ j := hj.1; omega
                    · have h1 := (hvl j e).2; have h3 : w5.heap.size ≤ j := hj.1; omega)
                  exact ⟨⟨q2 + 1, _, _, rfl, by omega, by go_num, RW7, E7⟩, by simp [intOf]; omega⟩
                · obtain rfl : q2 = yn := by omega
                  rw [HTK.out] at HR
                  obtain ⟨vA2, vc2, hv, _⟩ := HR.out.own.at_ len_eBx
                  subst hv
                  have HFIN : Hid (BxsAt wr GT vA2 ys.length vc2 L2) := hide (HR.out.at_.good (fun _ _ => rfl) (fun _ _ => trivial))
                  have HX3 := hide (Ext.trans E2.out (Ext.trans HXX.out HY.out))
                  clear hql HR
                  go_wp2_with fail
                  go_ret2
                  exact HGV.out _ _ _ _ HX3.out HFIN.out
            · have d1 : ((j : Int) == (i : Int) - 1) = false := by rw [beq_eq_false_iff_ne]; omega
              have hj2 : j + 1 < i := by omega
              have hyl := HB2.out.len
              obtain ⟨hs2, ha2, hp2⟩ := HB2.out.pr
              have HA2 := hide ha2
              have HPK2 := hide hp2
              have hhl2 := hp2.1
              have hbb2 := ha2.bound
              clear hlast HLA ha2 hp2
              generalize fltL kd L = L2 at *
              go_wp2_with fail
              go_loopw [15, 68] (fun r15 rk wr => ∃ (q : Nat) (v : Value) (ys : List BoxH), v = r15 ∧ q ≤ yn ∧ rk = .int .i64 q ∧ Hid (Own wr w3.heap.size 39 4 eBx v ys) ∧ Hid (PrOk w3 ys (kidsL (L2.take q))) ∧ Hid (Ext w3 wr)) (fun _ rk _ => yn - (intOf rk).toNat)
              case atStart => exact ⟨0, _, [], rfl, by omega, rfl, hide (Own.nil _ _ _ _ _), hide (by simp [kidsL]; exact PrOk.nil _), hide (Ext.refl _)⟩
              case round =>
                obtain ⟨q2, v, ys, rfl, hq2, rfl, HO, HPY, HY⟩ := hrel
                by_cases hql : q2 < yn
                · have hqL : q2 < L2.length := by omega
                  have hqh : q2 < hs2.length := by omega
                  obtain ⟨b, o, rfl, _⟩ := HA2.out.addr (by omega)
                  have EY := HY.out
                  have hat := HA2.out.ext EY
                  have gy : hs2.getD q2 default = hs2[q2] := by simp [List.getD, hqh]
                  have hq1 := HPK2.out.2 q2 _ _ (List.getElem?_eq_getElem hqh) (List.getElem?_eq_getElem hqL)
                  have HU : Hid (kidsL (L2.take (q2 + 1)) = kidsL (L2.take q2) ++ L2[q2].kids) := hide (kidsL_take hqL)
                  have HK1q := HK1.out (q2 + 1)
                  have hpl := HPY.out.1
                  generalize hs2[q2] = z at *
                  generalize L2[q2] = u at *
                  have a0 : wr.cell? ⟨b, o + q2 * 4, none⟩ = some (.string ⟨z.kind.toArray⟩) := hat.cellK hql default 0 _ (by rw [gy]; rfl)
                  have a1 : wr.cell? ⟨b, o + q2 * 4 + 1, none⟩ = some (.int .i64 z.form) := hat.cellK hql default 1 _ (by rw [gy]; rfl)
                  have a2 : wr.cell? ⟨b, o + q2 * 4 + 2, none⟩ = some (.slice z.dA z.dn z.dc) := hat.cellK hql default 2 _ (by rw [gy]; rfl)
                  have a3 : wr.cell? ⟨b, o + q2 * 4 + 3, none⟩ = some (.slice z.kA z.kn z.kc) := hat.cellK hql default 3 _ (by rw [gy]; rfl)
                  have hkn := hq1.2.len
                  rw [HU.out, List.length_append] at HK1q
                  obtain ⟨zs, za, zp⟩ := hq1.2.pr
                  have j1 : (q2 : Int) < (yn : Int) := by omega
                  have j0 : (0 : Int) ≤ (q2 : Int) := by omega
                  have j8 : IntKind.i64.wrap ((q2 : Int) + 1) = (q2 : Int) + 1 := by rw [IntKind.wrap_i64]; omega
                  have S1 : Hid (ys.length + z.kn ≤ maxLen) := hide (by unfold maxLen; omega)
                  have S2 : Hid ((ys.length + z.kn) * 72 ≤ 140737488355328) := hide (by omega)
                  have HN2 : Hid (PrOk w3 (ys ++ zs) (kidsL (L2.take (q2 + 1)))) := hide (by rw [HU.out]; exact HPY.out.app zp)
                  have ZA := hide za
                  clear HU hq1 hat gy hpl HK1q zp za hkn
                  go_upto_region 27 with (fail)
                  refine gen_wpC fun w5 h5 => ?_
                  obtain ⟨xb, hxb⟩ : ∃ xb, xb = wr.heap.size := ⟨_, rfl⟩
                  rw [← hxb]
                  have E5 : Hid (Ext w3 w5) := hide (by rw [h5]; exact Ext.trans EY (Ext.alloc _ _))
                  have O5 : Hid (Own w5 w3.heap.size 39 4 eBx v ys) := hide (by rw [h5]; exact HO.out.ext (Ext.alloc _ _))
                  have X5 : Hid (Blk w5 xb 39 #[.string ⟨z.kind.toArray⟩, .int .i64 z.form, .slice z.dA z.dn z.dc, .slice z.kA z.kn z.kc]) := hide (by rw [h5, hxb]; exact Blk.new _ _ _)
                  clear h5 hxb a0 a1 a2 a3 HO HY EY
                  have x3 : w5.cell? ⟨xb, 3, none⟩ = some (.slice z.kA z.kn z.kc) := X5.out.cell 3
                  go_wp2_with (at_builtin; refine wpList_append_at _ rfl (.tmp 72) (.tmp 74) 22 rfl w3.heap.size 39 i0_ _ 72 Tryd.underlying22 hi0 hz0 hz1 hz2 rfl (by omega) len_eBx one_eBx _ _ (by rfl) O5.out z.kA z.kn z.kc zs (by rfl) (ZA.out.ext E5.out) S1.out S2.out E5.out.size ?_; intro v7 w7 o7 g7 _ _; have O7 := hide o7; have E7 : Hid (Ext w3 w7) := hide (O5.out.below E5.out g7 (Nat.le_refl _)); clear o7 g7)
                  exact ⟨⟨q2 + 1, _, _, rfl, by omega, by go_num, O7, HN2, E7⟩, by simp [intOf]; omega⟩
                · obtain rfl : q2 = yn := by omega
                  have HFN : Hid (∃ vA vc, v = .slice vA ys.length vc ∧ BxsAt wr GT vA ys.length vc (lvlL ks l (j + 1))) := hide (by
                    obtain ⟨vA, vc, hv, hva⟩ := HO.out.at_ len_eBx
                    refine ⟨vA, vc, hv, ?_⟩
                    have hpk := HPY.out
                    rw [show L2.take q2 = L2 from by rw [← hyl, List.take_length], ← HNX.out] at hpk
                    exact (hpk.ext HY.out).at_ hva)
                  have HX3 := hide (Ext.trans HXX.out HY.out)
                  obtain ⟨vA3, vc3, hv, hb3⟩ := HFN.out
                  subst hv
                  have HB3 := hide hb3
                  clear hb3 HFN hql
                  go_wp2_with fail
                  exact ⟨⟨j + 1, _, _, _, rfl, hj2, by go_num, HB3, HX3⟩, by simp [intOf]; omega⟩
end Go.Proofs.YtoliplgadhdgbaaDoor
namespace Go.Proofs.YtoliplgadhdgbaaDoor
open Go.RowKit
theorem pk_one {l : List BoxT} {w : World} {P : FuncId} {args : Array Value} (h : Calls Tryd.prog P args w (PkGives l w)) :
    Calls Tryd.prog P args w fun e w' => ∃ N c2, e = .returned (.tuple #[.slice N (bkL l).length c2, .int .i64 (bfF l)]) ∧ Ext w w' ∧ At w' 1 e8 N (bkL l).length c2 (bkL l) := by
  refine h.mono ?_
  intro e w' ⟨h1, h2, h3⟩
  by_cases hz : bfF l = 0
  · obtain ⟨v, he, ho⟩ := h3 hz
    obtain ⟨N, c2, rfl, hat⟩ := ho.at_ len_e8
    have hk : bkL l = bytL l := by unfold bkL; rw [if_pos hz]
    rw [hk, hz]
    exact ⟨N, c2, he, h1, hat⟩
  · have hk : bkL l = [] := by unfold bkL; rw [if_neg hz]
    rw [hk]
    exact ⟨none, 0, h2 hz, h1, At.nil _ _ _⟩
/-- The boxes that Find gives. -/
def fnB (ks : List (List UInt8)) (l : List BoxT) : List BoxT := if fnF ks l = 0 then fndL ks l else []
theorem fn_one {ks : List (List UInt8)} {l : List BoxT} {w : World} {P : FuncId} {args : Array Value} (h : Calls Tryd.prog P args w (FnGives ks l w)) :
    Calls Tryd.prog P args w fun e w' => ∃ A n c, e = .returned (.tuple #[.slice A n c, .int .i64 (fnF ks l)]) ∧ Ext w w' ∧ BxsAt w' GT A n c (fnB ks l) := by
  refine h.mono ?_
  intro e w' ⟨h1, h2, h3⟩
  by_cases hz : fnF ks l = 0
  · obtain ⟨A, n, c, he, hb⟩ := h3 hz
    have hk : fnB ks l = fndL ks l := by unfold fnB; rw [if_pos hz]
    rw [hk, hz]
    exact ⟨A, n, c, he, h1, hb⟩
  · have hk : fnB ks l = [] := by unfold fnB; rw [if_neg hz]
    rw [hk]
    exact ⟨none, 0, 0, h2 hz, h1, BxsAt.nil _ _⟩
set_option linter.unusedVariables false in
set_option maxRecDepth 100000 in
set_option maxHeartbeats 8000000 in
theorem packs_any {l : List BoxT} {w : World} {G : Nat → Prop} {A : Option Addr} {n c : Nat} (h : BxsAt w G A n c l) (hb : bndL 140737488355328 l) (s : ByteArray) (hs : s.size < 4294967281) (mx : Int) (hmx : w.cell? ⟨0, 0, none⟩ = some (.int .i64 mx)) :
    Calls Tryd.prog 3 #[.slice A n c, .string s] w fun e w' => e = .returned (.bool true) ∧ Ext w w' := by
  have H1 := hide (pk_one (keyPack_any h hb))
  have H2 := hide (fun (W : World) (hW : Ext w W) => pk_one (refPack_any (h.ext hW) hb))
  have H3 := hide (fun (W : World) (hW : Ext w W) => fn_one (keyFind_any (h.ext hW) hb s hs mx (hW.cell hmx)))
  have H4 := hide (fun (W : World) (hW : Ext w W) => fn_one (refFind_any (h.ext hW) hb s hs))
  have HAW := hide (fun (W : World) => awake_any W)
  clear h hb hs hmx
  generalize bkL l = bs at *
  generalize bfF l = bf at *
  generalize fnF (prtL s.data.toList) l = ff at *
  generalize fnB (prtL s.data.toList) l = fb at *
  go_enter Tryd.func3, Tryd.ntmps3
  go_wp2_with fail
  with_reducible refine H1.out.mono ?_
  rintro e w1 ⟨N1, c1, rfl, e1, a1⟩
  have E1 := hide e1
  have A1 := hide a1
  clear e1 a1 H1
  go_wp2_with fail
  with_reducible refine (H2.out _ E1.out).mono ?_
  rintro e w2 ⟨N2, c2, rfl, e2, a2⟩
  have E2 := hide (Ext.trans E1.out e2)
  have A1' := hide (A1.out.ext e2)
  have A2 := hide a2
  clear e2 a2 H2 A1
  go_wp2_with fail
  with_reducible refine (H3.out _ E2.out).mono ?_
  rintro e w3 ⟨N3, n3, c3, rfl, e3, a3⟩
  have E3 := hide (Ext.trans E2.out e3)
  have EA := hide e3
  have A3 := hide a3
  clear e3 a3 H3
  go_wp2_with fail
  with_reducible refine (H4.out _ E3.out).mono ?_
  rintro e w4 ⟨N4, n4, c4, rfl, e4, a4⟩
  have E4 := hide (Ext.trans E3.out e4)
  have HBE := hide (Calls.mono (bytesEq_any ((A1'.out.ext EA.out).ext e4) ((A2.out.ext EA.out).ext e4)) (fun e w' he => (⟨by rw [he.1]; simp, he.2⟩ : e = .returned (.bool true) ∧ w4 = w')))
  have HSB := hide (same_any _ (Nat.le_refl _) (A3.out.ext e4) a4 (fun _ _ => trivial))
  clear e4 a4 H4 A1' A2 A3 EA
  have d1 : (bf == bf) = true := by simp
  have d2 : (ff == ff) = true := by simp
  go_wp2_with fail
  with_reducible refine HBE.out.mono ?_
  rintro e w' ⟨rfl, rfl⟩
  go_wp2_with fail
  with_reducible refine HSB.out.mono ?_
  rintro e w5 ⟨rfl, m5, hm5⟩
  have E5 : Hid (Ext w w5) := hide (by rw [hm5]; exact Ext.trans E4.out (Ext.drewN _ _))
  clear hm5
  go_wp2_with fail
  with_reducible refine (HAW.out _).mono ?_
  rintro e w6 ⟨rfl, e6⟩
  have E6 := hide (Ext.trans E5.out e6)
  clear e6
  go_wp2_with fail
  go_ret
  exact ⟨rfl, E6.out⟩
end Go.Proofs.YtoliplgadhdgbaaDoor
namespace Go.Proofs.YtoliplgadhdgbaaDoor
open Go.ChangeShapes Go.WideShapes Go.ChangeAt Go.RowKit
open Go.ChangeMaps (open_string shut_string)
theorem weights_ofB {H : Type} {ts : List TypeId} {ds : List (DataW H)} (hsz : (DataW.weightsEach Tryd.prog ts ds).all (· ≤ reachBytes) = true) (j : Nat) {t : TypeId} (ht : ts[j]? = some t) {d : DataW H} (hd : ds[j]? = some d) :
    (d.weights Tryd.prog t).all (· ≤ reachBytes) = true := by
  rw [List.all_eq_true] at hsz ⊢
  intro x hx
  exact hsz x (DataW.weights_mem_each ht hd x hx)
theorem path_short {H : Type} {d : DataW H} {s : ByteArray} {r : List (DataW H)} (hk : Rows.uptoSmall H (d :: .lit (.string s.data.toList) :: r) = true) : s.size ≤ 1048576 := by
  have h : Rows.uptoBulkAll (d :: DataW.lit (H := H) (.string s.data.toList) :: r) ≤ 1048576 := of_decide_eq_true hk
  simp only [Rows.uptoBulkAll, Rows.uptoBulk] at h
  have e : s.data.toList.length = s.size := by rw [Array.length_toList]; rfl
  omega
noncomputable def layFirst : Obj → Obj
  | .cells _ t frozen => .cells (Go.Pinned.utf8FirstZ.map fun (n : Nat) => Value.int .u8 (n : Int)).toArray t frozen
  | o => o
noncomputable def layRanges : Obj → Obj
  | .cells _ t frozen => .cells #[.int .u8 128, .int .u8 191, .int .u8 160, .int .u8 191, .int .u8 128, .int .u8 159, .int .u8 144, .int .u8 191, .int .u8 128, .int .u8 143, .int .u8 0, .int .u8 0, .int .u8 0, .int .u8 0, .int .u8 0, .int .u8 0, .int .u8 0, .int .u8 0, .int .u8 0, .int .u8 0, .int .u8 0, .int .u8 0, .int .u8 0, .int .u8 0, .int .u8 0, .int .u8 0, .int .u8 0, .int .u8 0, .int .u8 0, .int .u8 0, .int .u8 0, .int .u8 0] t frozen
  | o => o
/-- A world for the witness: the settled one, the listed tables holding what the text lays. -/
noncomputable def laidWorld (os : Os) : World :=
  { World.holding Tryd.prog os ⟨#[], #[], []⟩ with heap := ((World.holding Tryd.prog os ⟨#[], #[], []⟩).heap.modify 1 layFirst).modify 2 layRanges }
set_option maxRecDepth 100000 in
theorem laid_met (os : Os) : laidMet Tryd.prog Rows.boxPacksMatchSpecRow.laid ((laidWorld os).forCall (fun _ _ => 0) ⟨#[], #[.slice none 0 0, .string .empty], []⟩).memory :=
  laidMet_of_run' 8 (by kernel_rfl) (by kernel_rfl)
set_option maxRecDepth 100000 in
theorem reads (os : Os) {H : Type} (enc : TypeId × Value → H) : ∃ places, DataW.whole enc Tryd.prog ((laidWorld os).forCall (fun _ _ => 0) ⟨#[], #[.slice none 0 0, .string .empty], []⟩).memory Tryd.f3.params.toList Rows.boxPacksMatchSpecSpec.vars false #[Value.slice none 0 0, Value.string .empty].toList 8 = some ([.nil, .lit (.string [])], [], places) :=
  ⟨[], by kernel_rfl⟩
set_option maxRecDepth 100000 in
theorem boxPacks_lifted (os : Os) (started : os.Started) (H : Type) (enc : TypeId × Value → H) (F : Stop.Interp) :
    ReturnsInHanded {} Tryd.checked os 3 .any ((Rows.OpenSpec.upto Rows.boxPacksMatchSpecSpec).preRow enc Tryd.prog Tryd.f3 Rows.boxPacksMatchSpecUptoRow.domain false Rows.boxPacksMatchSpecUptoRow.laid) (((Rows.OpenSpec.upto Rows.boxPacksMatchSpecSpec).at F).post enc Tryd.prog Tryd.f3 false true false false) := by
  obtain ⟨places, hx⟩ := reads os enc
  refine returnsInHanded_of_row (C := Tryd.checked) (s := Rows.OpenSpec.upto Rows.boxPacksMatchSpecSpec) Tryd.own started (by kernel_rfl) Tryd.func3
    (witness_row_at (enc := enc) (C := Tryd.checked) false (laidWorld os) #[.slice none 0 0, .string .empty] rfl (by kernel_rfl) (by kernel_rfl) (by kernel_rfl)
      (OpenSpec.preRow_of_cond 8 hx (by kernel_rfl) (fun k hk => by cases hk; kernel_rfl) (by kernel_rfl) (laid_met os))) ?_
  intro W base args ds gs before hval0 hW _ hcond hsz0 _ hsh _
  have hk : Rows.uptoSmall H (ds ++ gs) = true := hcond _ rfl
  have hsz : (DataW.weightsEach Tryd.prog (Tryd.f3.params.toList ++ Rows.boxPacksMatchSpecSpec.plain.varTypes Tryd.prog) (ds ++ gs)).all (· ≤ reachBytes) = true := hsz0
  have hval : ∀ (j : Nat) t v, Tryd.f3.params[j]? = some t → args[j]? = some v → Value.okWide Tryd.prog W .any base t v := hval0
  have hW2 : DataW.Whole enc Tryd.prog Tryd.f3.params.toList Rows.boxPacksMatchSpecSpec.vars false W args.toList ds gs before := hW
  have hW' := hW2
  obtain ⟨p, q, hA0, hV, rfl, _, _⟩ := hW2
  have hA : DataW.TrodAll enc Tryd.prog W 0 (fun _ => true) true Tryd.f3.params.toList args.toList ds p := hA0
  rw [Tryd.params3] at hA hval hsz
  obtain ⟨v0, v1, d0, d1, p0, p1, rfl, rfl, rfl, h0, h1⟩ := trodAll_two hA
  obtain ⟨A0, n0, c0, l0, rfl, hBx0, hBb0⟩ := open_boxes (hval 0 22 v0 rfl rfl) h0 (weights_ofB hsz 0 rfl rfl)
  obtain ⟨s, rfl, rfl, rfl, hmax⟩ := open_string Tryd.underlying9 (hval 1 9 v1 rfl rfl) h1
  have hs := path_short hk
  obtain ⟨mx, hmx⟩ : ∃ m, W.cell? ⟨0, 0, none⟩ = some (.int .i64 m) := Go.Proofs.cell_of_shapedOpen_int (zero := #[.int .i64 0]) (t := 3) hsh (of_decide_eq_true (by kernel_rfl)) (by kernel_rfl) rfl (by kernel_rfl) (by kernel_rfl) Tryd.underlying3
  refine (packs_any hBx0 hBb0 s (by omega) mx hmx).mono fun e W' ⟨he, hE⟩ => ?_
  subst he
  exact ⟨_, rfl, law_post Tryd.laidOut Tryd.underlying4 hW' rfl rfl rfl (by kernel_rfl) hE⟩
theorem boxPacks_closed : joinedFacts Tryd.prog 3 Tryd.f3 Rows.boxPacksMatchSpecSpec Rows.boxPacksMatchSpecUptoRow = true :=
  joined_of Tryd.laidOut Tryd.mapsRowed Tryd.plainKeys Tryd.stopsHeard Tryd.stopsNone Tryd.knobsNone Tryd.mayEnter Tryd.makeCut Tryd.liftsFinal rfl rfl rfl (by as_aux_lemma => kernel_rfl)
    (by as_aux_lemma => kernel_rfl) (by as_aux_lemma => kernel_rfl) (by as_aux_lemma => kernel_rfl) (by as_aux_lemma => kernel_rfl) (by as_aux_lemma => kernel_rfl) (by as_aux_lemma => kernel_rfl) (by as_aux_lemma => kernel_rfl) (by as_aux_lemma => kernel_rfl) (by as_aux_lemma => kernel_rfl) (by as_aux_lemma => kernel_rfl)
theorem boxPacks_said : Rows.BoxPacksMatchSpecUptoSaid :=
  OpenClaim.holds_of_cond 3 Tryd.f3 rfl rfl rfl rfl rfl rfl rfl ⟨rfl, rfl, rfl, rfl, rfl⟩ rfl rfl rfl rfl rfl (by as_aux_lemma => kernel_rfl) Tryd.func3 (by as_aux_lemma => kernel_rfl)
    (of_decide_eq_true (by kernel_rfl)) (by unfold Func.isWrapper; first | (rw [if_pos (by decide +kernel)]; kernel_rfl) | (rw [if_neg (by decide +kernel)]; exact ⟨rfl, rfl⟩))
    (fun os started H enc _ F => by rw [OpenClaim.pre_eq_preRow]; exact boxPacks_lifted os started H enc F)
theorem plain2 (f : FuncId) (fn : Func) (hf : Tryd.pinned.checked.prog.funcNamed "headend/headendlaw2.BoxPacksMatchSpec" = some f) (hfn : Tryd.pinned.checked.prog.funcs[f]? = some fn) :
    false = Tryd.pinned.checked.prog.looks [] ∧ ∀ (j : Nat) t, fn.params[j]? = some t → Tryd.pinned.checked.prog.wantsStandIn t = false := by
  obtain rfl : f = 3 := Option.some.inj ((show Tryd.prog.funcNamed "headend/headendlaw2.BoxPacksMatchSpec" = some 3 by kernel_rfl).symm.trans hf) |>.symm
  obtain rfl : fn = Tryd.f3 := (Option.some.inj (Tryd.func3.symm.trans hfn)).symm
  refine ⟨by kernel_rfl, fun j t ht => ?_⟩
  rw [Tryd.params3] at ht
  have hm : t = 22 ∨ t = 9 := by
    match j, ht with
    | 0, ht => simp at ht; exact .inl ht.symm
    | 1, ht => simp at ht; exact .inr ht.symm
    | j + 2, ht => simp at ht
  rcases hm with rfl | rfl
  · exact (show Tryd.prog.wantsStandIn 22 = false by kernel_rfl)
  · exact (show Tryd.prog.wantsStandIn 9 = false by kernel_rfl)
theorem boxPacksMatchSpec_holds : Rows.BoxPacksMatchSpecUptoCardSaid :=
  Claim7.holds_tied_plain_at .later [] _ _ _ _ boxPacks_said (fun _ h => by cases h) (by kernel_rfl) (fun _ h => by cases h) boxPacksMatchSpecUpto_row_tie rfl ⟨rfl, rfl⟩ (by kernel_rfl) rfl plain2 (by kernel_rfl)
#print axioms boxPacksMatchSpec_holds
end Go.Proofs.YtoliplgadhdgbaaDoor
