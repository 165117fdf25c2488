/- Walk: Fragments (program). Conditions as stated. -/
import Derived.Test.YtgnmnhlhiiehfaaSmpB
import Derived.Test.YtgnmnhlhiiehfaaSlice
import Derived.Deep.DeepCutAuto
namespace Go.Proofs.Ytgnmnhlhiiehfaa
open Go.RowKit
/-- The cells of a fragment. -/
structure FrH where
  num : Int
  sA : Option Addr
  sn : Nat
  sc : Nat
deriving Inhabited
abbrev eFr (x : FrH) : List Value := [.int .i64 x.num, .slice x.sA x.sn x.sc]
theorem len_eFr (x : FrH) : (eFr x).length = 2 := rfl
theorem one_eFr (x : FrH) : ∀ u ∈ eFr x, u.oneCell' = true := by
  intro u hu
  simp at hu
  rcases hu with rfl | rfl <;> rfl
def FrOk (w : World) (G : Nat → Prop) (y : FrH) (x : Int × List Smp) : Prop := y.num = x.1 ∧ At w 5 eSm y.sA y.sn y.sc x.2 ∧ InG G y.sA
theorem FrOk.good {w w' : World} {G H : Nat → Prop} {y : FrH} {x : Int × List Smp} (h : FrOk w G y x) (hG : ∀ k, G k → w'.heap[k]? = w.heap[k]?) (hi : ∀ k, G k → H k) : FrOk w' H y x := ⟨h.1, h.2.1.good h.2.2 hG, h.2.2.mono hi⟩
/-- Fragments in memory. -/
def FrsAt (w : World) (G : Nat → Prop) (A : Option Addr) (n c : Nat) (l : List (Int × List Smp)) : Prop :=
  ∃ hs : List FrH, At w 2 eFr A n c hs ∧ InG G A ∧ hs.length = l.length ∧ ∀ (i : Nat) (y : FrH) (x : Int × List Smp), hs[i]? = some y → l[i]? = some x → FrOk w G y x
theorem FrsAt.good {w w' : World} {G H : Nat → Prop} {A : Option Addr} {n c : Nat} {l : List (Int × List Smp)} (h : FrsAt w G A n c l) (hG : ∀ k, G k → w'.heap[k]? = w.heap[k]?) (hi : ∀ k, G k → H k) : FrsAt w' H A n c l := by
  obtain ⟨hs, h1, h2, h3, h4⟩ := h
  exact ⟨hs, h1.good h2 hG, h2.mono hi, h3, fun i y x hy hx => (h4 i y x hy hx).good hG hi⟩
theorem Rw.extF {w w' : World} {B : Nat} {t : TypeId} {v : Value} {hs : List FrH} {l : List (Int × List Smp)} (h : Rw w B t 2 eFr (FrOk w) v hs l) (hT : Ext w w') : Rw w' B t 2 eFr (FrOk w') v hs l := by
  obtain ⟨h1, h2, G, h3, h4⟩ := h
  exact ⟨h1.ext hT, h2, G, fun k hk => ⟨(h3 k hk).1, Nat.lt_of_lt_of_le (h3 k hk).2.1 hT.size, (h3 k hk).2.2⟩, fun i y x hy hx => (h4 i y x hy hx).good (fun k hk => hT.block k (h3 k hk).2.1) (fun _ hk => hk)⟩
theorem Rw.snocF {w wa w' : World} {B : Nat} {t : TypeId} {v v' : Value} {hs : List FrH} {l : List (Int × List Smp)} {y : FrH} {x : Int × List Smp} {G' : Nat → Prop} (h : Rw w B t 2 eFr (FrOk w) v hs l) (hy : FrOk w G' y x)
    (hG : ∀ k, G' k → B ≤ k ∧ k < w.heap.size ∧ v.ownBlock ≠ some k) (he : Ext w wa) (ho : Own w' B t 2 eFr v' (hs ++ [y])) (hg : wa.grownBy w' v.ownBlock) (hr : v'.ownBlock = v.ownBlock ∨ v'.ownBlock = some wa.heap.size) :
    Rw w' B t 2 eFr (FrOk w') v' (hs ++ [y]) (l ++ [x]) := by
  obtain ⟨h1, h2, G, h3, h4⟩ := h
  have hsz := he.size
  have hb : ∀ k, k < w.heap.size → v.ownBlock ≠ some k → w'.heap[k]? = w.heap[k]? := fun k hk hn => (hg.block k (by omega) (fun e => hn e.symm)).trans (he.block k hk)
  refine ⟨ho, by simp [h2], fun k => G k ∨ G' k, fun k hk => ?_, fun i y' x' hy' hx' => ?_⟩
  · have hk2 : B ≤ k ∧ k < w.heap.size ∧ v.ownBlock ≠ some k := by
      rcases hk with hk | hk
      · exact h3 k hk
      · exact hG k hk
    refine ⟨hk2.1, by have := hg.size; omega, ?_⟩
    rcases hr with hr | hr
    · rw [hr]; exact hk2.2.2
    · rw [hr]; intro e; injection e with e; omega
  · rcases get_snoc hy' with hy1 | ⟨hy1, rfl⟩
    · have hi := get_lt hy1
      have hx1 : l[i]? = some x' := by
        rw [List.getElem?_append_left (by omega)] at hx'
        exact hx'
      exact (h4 i y' x' hy1 hx1).good (fun k hk => hb k (h3 k hk).2.1 (h3 k hk).2.2) (fun _ hk => .inl hk)
    · have hx1 : x' = x := by
        rcases get_snoc hx' with hx1 | ⟨_, hx1⟩
        · have := get_lt hx1; omega
        · exact hx1
      subst hx1
      exact hy.good (fun k hk => hb k (hG k hk).2.1 (hG k hk).2.2) (fun _ hk => .inr hk)
theorem Rw.fin {w : World} {B : Nat} {t : TypeId} {A : Option Addr} {n c : Nat} {hs : List FrH} {l : List (Int × List Smp)} (h : Rw w B t 2 eFr (FrOk w) (.slice A n c) hs l) : FrsAt w (fun k => B ≤ k ∧ k < w.heap.size) A n c l := by
  obtain ⟨h1, h2, G, h3, h4⟩ := h
  exact ⟨hs, h1.atS len_eFr, (fun a ha => by subst ha; exact h1.lt a.block rfl), h2, fun i y x hy hx => (h4 i y x hy hx).good (fun _ _ => rfl) (fun k hk => ⟨(h3 k hk).1, (h3 k hk).2.1⟩)⟩
theorem Try.info35 : (Try.prog.info? 35).map (fun i => (i.zero, i.size, i.bytes)) = some (some (.agg #[.int .i64 0, .slice none 0 0]), 2, 32) := by kernel_rfl
/-- The first fragments. -/
def frL (n : Nat) (l : List Smp) (j : Nat) : List (Int × List Smp) := (List.range j).map fun i => (((i + 1 : Nat) : Int), (l.drop (i * n)).take n)
theorem frL_succ (n : Nat) (l : List Smp) (j : Nat) : frL n l (j + 1) = frL n l j ++ [(((j + 1 : Nat) : Int), (l.drop (j * n)).take n)] := by
  unfold frL; rw [List.range_succ, List.map_append]; rfl
theorem frL_len (n : Nat) (l : List Smp) (j : Nat) : (frL n l j).length = j := by unfold frL; simp
def lenOf : Value → Nat
  | .slice _ m _ => m
  | _ => 0
/-- What Fragments gives of what is right. -/
def FrgGives (w : World) (n : Nat) (l : List Smp) (e : Ending) (w' : World) : Prop :=
  Ext w w' ∧ ∃ N c2 j, e = .returned (.tuple #[.slice N j c2, .int .i64 0]) ∧ FrsAt w' (fun k => w.heap.size ≤ k ∧ k < w'.heap.size) N j c2 (frL n l j) ∧ l.length ≤ j * n ∧ (j = 0 ∨ (j - 1) * n < l.length)
set_option linter.unusedVariables false in
set_option maxRecDepth 100000 in
set_option maxHeartbeats 8000000 in
theorem keyFragments_ok {A : Option Addr} {m c n : Nat} {l : List Smp} {w : World} (h : At w 5 eSm A m c l) (hF : smpF l = 0) (hn : 1 ≤ n ∧ n ≤ 5000) :
    Calls Try.prog 13 #[.slice A m c, .int .i64 (n : Int)] w (FrgGives w n l) := by
  have hl := h.len
  have hm : m ≤ 5000 := by have := (smpF_zero hF).1; omega
  have hc := keySamples_any h
  rw [hF] at hc
  have HC := hide hc
  have H := hide h
  have HL := hide hl
  obtain ⟨hn1, hn2⟩ := hn
  obtain ⟨i0, hi0, hz0, hz1, hz2⟩ := info_parts Try.info35
  clear h hl hF hc
  go_enter Try.func13, Try.ntmps13
  go_wp2_with fail
  with_reducible refine HC.out.mono ?_
  rintro e w1 ⟨rfl, e1⟩
  have E1 := hide e1
  clear e1
  go_wp2_with (first | ((go_at_call 31; with_reducible refine (out_no ⟨by omega, by omega⟩ _).mono ?_); rintro e w' ⟨rfl, rfl⟩))
  go_loopw [0, 7] (fun r0 rv wr => ∃ (j : Nat) (A' : Option Addr) (c' : Nat) (hs : List FrH), r0 = .slice A' (m - j * n) c' ∧ Hid (At w1 5 eSm A' (m - j * n) c' (l.drop (j * n)) ∧ Rw wr w1.heap.size 35 2 eFr (FrOk wr) rv hs (frL n l j) ∧ Ext w1 wr ∧ (j = 0 ∨ (j - 1) * n < m))) (fun r0 _ _ => lenOf r0)
  case atStart => exact ⟨0, A, c, [], by simp, hide ⟨by simpa using H.out.ext E1.out, ⟨Own.nil _ _ _ _ _, rfl, fun _ => False, (fun k h => h.elim), fun i y x hy _ => by simp at hy⟩, Ext.refl _, .inl rfl⟩⟩
  case round =>
    obtain ⟨j, A', c', hs, rfl, HI⟩ := hrel
    have hjn : j = 0 ∨ (j - 1) * n < m := HI.out.2.2.2
    have hjm : j ≤ m := by
      rcases hjn with h | h
      · omega
      · have : j - 1 ≤ (j - 1) * n := Nat.le_mul_of_pos_right _ (by omega)
        omega
    obtain ⟨vA, vc, hv, _⟩ := HI.out.2.1.own.at_ len_eFr
    have hhs : hs.length = j := by rw [HI.out.2.1.len, frL_len]
    rw [hhs] at hv
    subst hv
    have HJN := hide hjn
    have HHS := hide hhs
    have hat1 := HI.out.1
    have hat := hat1.ext HI.out.2.2.1
    have hmx := hat.le
    have hmy := hat.boundc
    have hlen := hat.len
    generalize hrem : m - j * n = rem at *
    have HREM := hide hrem
    have hr5 : rem ≤ 5000 := by omega
    clear hrem hjn hhs
    by_cases hlt : 0 < rem
    · obtain ⟨bA, oA, rfl, _⟩ := hat.addr hlt
      obtain ⟨kk, hkk⟩ : ∃ kk : Nat, kk = min n rem := ⟨_, rfl⟩
      have hk1 : kk ≤ rem := by omega
      have hk2 : 1 ≤ kk := by omega
      have hmin : min (n : Int) (rem : Int) = (kk : Int) := by omega
      obtain ⟨A3, hr3, ha3⟩ := hat.from_ Try.underlying30 (fun _ => by kernel_rfl) (k := kk) hk1 (kk : Int) rfl
      have HKK := hide hkk
      have HCL := hide (fun (W : World) (hW : Ext wr W) => cloneSm_any ((hat.upto hk1).ext hW) (by omega))
      have HAT := hide hat
      have HA3 := hide (ha3 w1 hat1)
      have HTK : Hid ((l.drop (j * n)).take kk = (l.drop (j * n)).take n) := hide (by
        rcases Nat.le_total n rem with hc | hc
        · rw [show kk = n by omega]
        · rw [show kk = rem by omega, List.take_of_length_le (by omega), List.take_of_length_le (by omega)])
      have HDR : Hid ((l.drop (j * n)).drop kk = l.drop ((j + 1) * n)) := hide (by
        rw [List.drop_drop]
        rcases Nat.le_total n rem with hc | hc
        · rw [show kk = n by omega, Nat.add_mul, Nat.one_mul]
        · rw [List.drop_of_length_le (by have := HL.out; have := HREM.out; omega), List.drop_of_length_le (by have := HL.out; have := HREM.out; rw [Nat.add_mul, Nat.one_mul]; omega)])
      have HRM : Hid (rem - kk = m - (j + 1) * n) := hide (by have := HREM.out; rw [Nat.add_mul, Nat.one_mul]; omega)
      have HJ2 : Hid (j + 1 = 0 ∨ (j + 1 - 1) * n < m) := hide (.inr (by have := HREM.out; rw [Nat.add_sub_cancel]; omega))
      have i1 : (0 : Int) < (rem : Int) := by omega
      have i2 : (kk : Int) ≤ (c' : Int) := by omega
      have i3 : (0 : Int) ≤ (kk : Int) := by omega
      have i4 : (kk : Int) ≤ (rem : Int) := by omega
      clear hat hat1 ha3 hkk hlen
      go_wp2_with fail
      with_reducible refine (HCL.out _ (Ext.refl _)).mono ?_
      rintro e w4 ⟨A4, c4, rfl, o4, e4⟩
      have hsz1 := HI.out.2.2.1.size
      have hl4 := o4.lt
      have at4 := o4.atS len_eSm
      rw [HTK.out] at at4
      have R4 := hide (HI.out.2.1.extF e4)
      have HOW := HI.out.2.1.own.lt
      have OK4 : Hid (FrOk w4 (fun k => wr.heap.size ≤ k ∧ k < w4.heap.size) ⟨((j : Int) + 1), A4, kk, c4⟩ (((j + 1 : Nat) : Int), (l.drop (j * n)).take n)) := hide ⟨by simp, at4, fun a ha => by subst ha; exact hl4 a.block rfl⟩
      have HGR : Hid (∀ k, (wr.heap.size ≤ k ∧ k < w4.heap.size) → w1.heap.size ≤ k ∧ k < w4.heap.size ∧ (Value.slice vA j vc).ownBlock ≠ some k) := hide (fun k hk => ⟨by omega, hk.2, fun e => by have := (HOW k e).2; omega⟩)
      have E4 := hide e4
      have AT6 : Hid (At (w4.alloc (.cells #[.int .i64 ((j : Int) + 1), .slice A4 kk c4] 35)) 2 eFr (some ⟨w4.heap.size, 0, none⟩) 1 1 [(⟨(j : Int) + 1, A4, kk, c4⟩ : FrH)]) := hide (At.newE (enc := eFr) w4 _ _ _ rfl)
      have M1 : Hid (hs.length + 1 ≤ maxLen) := hide (by rw [HHS.out]; unfold maxLen; omega)
      have M2 : Hid ((hs.length + 1) * 32 ≤ 140737488355328) := hide (by rw [HHS.out]; omega)
      have hsz4 := e4.size
      have M3 : Hid (w1.heap.size ≤ (w4.alloc (.cells #[.int .i64 ((j : Int) + 1), .slice A4 kk c4] 35)).heap.size) := hide (by rw [World.size_alloc]; omega)
      clear e4 o4 at4 hl4 HOW
      go_wp2_with (at_builtin; refine wpList_append_at _ rfl (.tmp 23) (.tmp 32) 31 rfl w1.heap.size 35 i0 _ 32 Try.underlying31 hi0 hz0 hz1 hz2 rfl (by omega) len_eFr one_eFr (.slice vA j vc) hs (by rfl) (R4.out.own.ext (Ext.alloc _ _)) (some ⟨w4.heap.size, 0, none⟩) 1 1 [(⟨(j : Int) + 1, A4, kk, c4⟩ : FrH)] (by rfl) AT6.out M1.out M2.out M3.out ?_; intro v7 w7 o7 g7 _ r7; have RW := hide (R4.out.snocF OK4.out HGR.out (Ext.alloc _ _) o7 g7 r7); have E7 : Hid (Ext w1 w7) := hide (Own.below (w0 := w1) (R4.out.own.ext (Ext.alloc _ _)) (Ext.trans (Ext.trans HI.out.2.2.1 E4.out) (Ext.alloc _ _)) g7 (Nat.le_refl _)); have E8 : Hid (∀ k, k < wr.heap.size → (Value.slice vA j vc).ownBlock ≠ some k → w7.heap[k]? = wr.heap[k]?) := hide (fun k hk hne => (g7.block k (by rw [World.size_alloc]; omega) (fun e => hne e.symm)).trans (((Ext.trans E4.out (Ext.alloc _ _))).block k hk)); clear o7 g7 r7)
      refine ⟨⟨j + 1, A3, c' - kk, hs ++ [⟨(j : Int) + 1, A4, kk, c4⟩], by rw [HRM.out], hide ⟨?_, ?_, E7.out, HJ2.out⟩⟩, ?_⟩
      · rw [← HRM.out, ← HDR.out]; exact HA3.out
      · rw [frL_succ]; exact RW.out
      · show rem - kk < rem
        omega
    · have hr0 : rem = 0 := by omega
      subst hr0
      clear hat hat1 hlen
      go_wp2_with fail
      have hfin : Hid (FrgGives w n l (.returned (.tuple #[.slice vA j vc, .int .i64 0])) wr) := hide (by
        have hsz := E1.out.size
        refine ⟨Ext.trans E1.out HI.out.2.2.1, vA, vc, j, rfl, ?_, by have := HREM.out; have := HL.out; omega, by rw [HL.out]; exact HJN.out⟩
        have := HI.out.2.1.fin
        exact this.good (fun _ _ => rfl) (fun k hk => ⟨by omega, hk.2⟩))
      refine bodyPost_ret (v := .tuple #[.slice vA j vc, .int .i64 0]) (by simp [results, Try.results13, go_sem]) rfl hfin.out
end Go.Proofs.Ytgnmnhlhiiehfaa
