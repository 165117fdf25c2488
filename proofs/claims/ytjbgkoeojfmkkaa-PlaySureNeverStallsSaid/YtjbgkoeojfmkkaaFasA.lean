/- Walks: SumOf, NeverWaits, Faster, Roomy of the statements. Conditions: as stated. -/
import Derived.Test.YtjbgkoeojfmkkaaFilmS
import Derived.Test.YtjbgkoeojfmkkaaTw
import Derived.Test.YtjbgkoeojfmkkaaPairs
import Derived.Test.YtjbgkoeojfmkkaaEndsB
namespace Go.Proofs.Ytjbgkoeojfmkkaa
open Go.RowKit

set_option maxRecDepth 100000 in
set_option maxHeartbeats 1000000 in
theorem sumOf_any {A : Option Addr} {n c : Nat} {l : List Int} {w : World} (h : At w 1 e64 A n c l) (hn : n ≤ 200) (hv : ∀ i, i < l.length → 0 ≤ l.getD i 0 ∧ l.getD i 0 ≤ 1000000000) :
    Calls Try.prog 11 #[.slice A n c] w fun e w' => e = .returned (.int .i64 l.sum) ∧ w = w' := by
  have HS := hide (refSum_any h hn hv)
  clear h hv
  go_enter Try.func11, Try.ntmps11
  go_wp2_with fail
  refine HS.out.mono ?_
  rintro e w1 ⟨rfl, rfl⟩
  go_wp2
  go_ret
  exact ⟨rfl, rfl⟩

/-- No segment is asked for later than the one before it came. -/
def NoWait (asd arr : List Int) (n : Nat) : Prop := ∀ i, 1 ≤ i → i < n → asd.getD i 0 = arr.getD (i - 1) 0
set_option maxRecDepth 100000 in
set_option maxHeartbeats 4000000 in
theorem neverWaits_any {cA : Option Addr} {cn cc : Nat} {aA : Option Addr} {an ac : Nat} {rA : Option Addr} {rn rc : Nat} {tA : Option Addr} {tn tc : Nat} {asd arr : List Int} {bg en : Int} {w : World} (ha : At w 1 e64 aA an ac asd) (hr : At w 1 e64 rA rn rc arr) (hn : rn = an) (hb : an ≤ 200) :
    Calls Try.prog 10 #[.agg #[.slice cA cn cc, .slice aA an ac, .slice rA rn rc, .int .i64 bg, .slice tA tn tc, .int .i64 en]] w fun e w' => ∃ b, e = .returned (.bool b) ∧ (b = true → NoWait asd arr an) ∧ Ext w w' := by
  have B0 := hide (Blk.new w 33 #[.slice cA cn cc, .slice aA an ac, .slice rA rn rc, .int .i64 bg, .slice tA tn tc, .int .i64 en])
  have HA := hide (ha.ext (Ext.alloc w (.cells #[.slice cA cn cc, .slice aA an ac, .slice rA rn rc, .int .i64 bg, .slice tA tn tc, .int .i64 en] 33)))
  have HR := hide (hr.ext (Ext.alloc w (.cells #[.slice cA cn cc, .slice aA an ac, .slice rA rn rc, .int .i64 bg, .slice tA tn tc, .int .i64 en] 33)))
  have HX := hide (Ext.alloc w (.cells #[.slice cA cn cc, .slice aA an ac, .slice rA rn rc, .int .i64 bg, .slice tA tn tc, .int .i64 en] 33))
  clear ha hr
  subst hn
  go_enter Try.func10, Try.ntmps10
  go_wp2
  go_loopw [3] (fun ri wr => ∃ k : Nat, 1 ≤ k ∧ k ≤ max 1 rn ∧ ri = .int .i64 k ∧ Hid (NoWait asd arr k) ∧ Hid (Ext (w.alloc (.cells #[.slice cA cn cc, .slice aA rn ac, .slice rA rn rc, .int .i64 bg, .slice tA tn tc, .int .i64 en] 33)) wr)) (fun ri _ => rn + 1 - (intOf ri).toNat)
  case atStart => exact ⟨1, by omega, by omega, rfl, hide (fun i h1 h2 => by omega), hide (Ext.refl _)⟩
  case round =>
    obtain ⟨k, hk1, hk2, rfl, HN, HE⟩ := hrel
    have B1 := hide (B0.out.ext HE.out)
    have c1 := B1.out.cell 1
    have c2 := B1.out.cell 2
    by_cases hlt : k < rn
    · obtain ⟨b, off, rfl, _⟩ := HA.out.addr (by omega)
      obtain ⟨b', off', rfl, _⟩ := HR.out.addr (by omega)
      have a1 := (HA.out.ext HE.out).num hlt
      have a2 := (HR.out.ext HE.out).num (k := k - 1) (by omega)
      have i2 : IntKind.i64.wrap ((k : Int) - 1) = (k : Int) - 1 := by rw [IntKind.wrap_i64]; omega
      have i3 : ((k : Int) - 1).toNat = k - 1 := by omega
      have i4 : 0 ≤ (k : Int) - 1 := by omega
      have i5 : (k : Int) - 1 < (rn : Int) := by omega
      have HS : Hid (asd.getD k 0 = arr.getD (k - 1) 0 → NoWait asd arr (k + 1)) := hide (fun h i h1 h2 => by
        by_cases e : i = k
        · rw [e]; exact h
        · exact HN.out i h1 (by omega))
      generalize asd.getD k 0 = x at *
      generalize arr.getD (k - 1) 0 = y at *
      by_cases hxy : x = y
      · have j1 : (x != y) = false := by simp [hxy]
        have HXY := hide hxy
        clear hxy
        go_wp2_with fail
        go_quiet (fail)
        go_wp2_with fail
        go_round
        case rel => exact ⟨k + 1, by omega, by omega, by rw [Int.natCast_add]; rfl, hide (HS.out HXY.out), hide (Ext.trans HE.out (Ext.drewN _ _))⟩
        case measure => simp [intOf]; omega
      · have j1 : (x != y) = true := by simp [hxy]
        clear hxy
        go_wp2_with fail
        go_quiet (fail)
        go_wp2_with fail
        go_ret
        exact ⟨false, rfl, fun h => by simp at h, Ext.trans HX.out (Ext.trans HE.out (Ext.drewN _ _))⟩
    · go_wp2_with fail
      go_ret
      exact ⟨true, rfl, fun _ i h1 h2 => HN.out i h1 (by omega), Ext.trans HX.out HE.out⟩

/-- A trace that is faster up to an element. -/
def fasK (m : Int) (l : List (Int × Int)) (k : Nat) : List (Int × Int) := fastT m (l.take k) ++ l.drop k
theorem fasK_zero (m : Int) (l : List (Int × Int)) : fasK m l 0 = l := rfl
theorem fasK_all (m : Int) (l : List (Int × Int)) : fasK m l l.length = fastT m l := by unfold fasK; simp
theorem fasK_len (m : Int) (l : List (Int × Int)) (k : Nat) : (fasK m l k).length = l.length := by unfold fasK fastT; simp; omega
theorem fasK_get (m : Int) (l : List (Int × Int)) (k : Nat) (hk : k < l.length) : (fasK m l k).getD k (0, 0) = l.getD k (0, 0) := by
  unfold fasK fastT
  simp [List.getD, List.getElem?_append, hk, Nat.min_eq_left (Nat.le_of_lt hk)]
theorem fasK_step (m : Int) (l : List (Int × Int)) (k : Nat) (hk : k < l.length) : (fasK m l k).set k ((l.getD k (0, 0)).1, (l.getD k (0, 0)).2 + m) = fasK m l (k + 1) := by
  unfold fasK fastT
  have e : l.drop k = l[k] :: l.drop (k + 1) := List.drop_eq_getElem_cons hk
  have e1 : (l.take k).length = k := by simp; omega
  rw [List.take_succ_eq_append_getElem hk, e, List.map_append, List.set_append, List.length_map, e1, if_neg (by omega), Nat.sub_self, List.set_cons_zero]
  simp [List.getD, hk]
theorem Try.info69 : (Try.prog.info? 69).map (fun i => (i.zero, i.size, i.bytes)) = some (some (.agg #[.int .i64 0, .int .i64 0]), 2, 16) := by kernel_rfl

theorem cloneF_any {A : Option Addr} {n c : Nat} {l : List (Int × Int)} {w : World} (h : At w 2 e2 A n c l) (hb : n ≤ 100000000) :
    Calls Try.prog 33 #[.slice A n c] w fun e w' => ∃ A' c', e = .returned (.slice A' n c') ∧ Own w' w.heap.size 69 2 e2 (.slice A' n c') l ∧ Ext w w' := by
  obtain ⟨i0, hi0, hz0, hz1, hz2⟩ := info_parts Try.info69
  have hl := h.len
  have H := hide h
  have HL := hide hl
  clear hl h
  cases A with
  | none =>
    have hn := H.out.none_ rfl
    have hle := H.out.le
    obtain rfl : n = 0 := by omega
    have hc0 : c = 0 := hn
    subst hc0
    have e1 := fun (W : World) => Lib.run_eql_slice_nil (P := Try.prog) W 26 69 none 0 0 0 0 Try.underlying26
    go_enter Try.func33, Try.ntmps33
    obtain rfl : l = [] := List.eq_nil_of_length_eq_zero HL.out
    go_wp2
    go_ret
    exact ⟨none, 0, rfl, Own.nil _ _ _ _ _, Ext.refl _⟩
  | some a =>
    have e1 := fun (W : World) => Lib.run_eql_slice_nil (P := Try.prog) W 26 69 (some a) n c 0 0 Try.underlying26
    go_enter Try.func33, Try.ntmps33
    have o0 : Own (w.alloc (.cells #[] 69)) w.heap.size 69 2 e2 (.slice (some ⟨w.heap.size, 0, none⟩) 0 0) [] :=
      ⟨by simp, .inr ⟨w.heap.size, 0, #[], rfl, Nat.le_refl _, heap_alloc_new w _, Nat.le_refl _, by unfold maxLen; omega, rfl, rfl⟩⟩
    have O0 := hide o0
    clear o0
    go_wp2_with (at_builtin; refine wpList_append_at _ rfl (.tmp 5) (.tmp 6) 26 rfl w.heap.size 69 i0 _ 16 Try.underlying26 hi0 hz0 hz1 hz2 rfl (by omega) len_e2 one_e2 (.slice (some ⟨w.heap.size, 0, none⟩) 0 0) [] rfl O0.out (some a) n c l rfl (H.out.ext (by repeat' (first | (with_reducible exact Below.refl _ _) | (with_reducible assumption) | (with_reducible refine below_drewN ?_ _) | (with_reducible refine Below.drew ?_) | (with_reducible refine ext_alloc ?_ _) | (with_reducible refine Below.setCell ?_ ?_ _) | go_size))) ?b1 ?b2 ?b3 ?_)
    case b1 => simp; have := H.out.max; have := H.out.le; unfold maxLen at *; omega
    case b2 => simp; omega
    case b3 => simp
    intro v3 w3 o3 g3 n3 _
    have o3' : Own w3 w.heap.size 69 2 e2 v3 l := o3
    obtain ⟨A3, c3, hv3, _⟩ := o3'.at_ len_e2
    rw [HL.out] at hv3
    rw [hv3] at o3' ⊢
    have O3 := hide o3'
    have E3 := hide (O0.out.below (Ext.alloc w (.cells #[] 69)) g3 (Nat.le_refl _))
    clear o3 o3' g3 n3 hv3
    go_wp2
    go_ret
    exact ⟨A3, c3, rfl, O3.out, E3.out⟩

set_option maxRecDepth 100000 in
set_option maxHeartbeats 4000000 in
theorem faster_any {A : Option Addr} {n c : Nat} {l : List (Int × Int)} {m : Int} {w : World} (h : At w 2 e2 A n c l) (hb : n ≤ 100000000) (hm : 0 ≤ m ∧ m ≤ 1000) (hv : ∀ i, i < l.length → 0 ≤ (l.getD i (0, 0)).2 ∧ (l.getD i (0, 0)).2 ≤ 1000000000) :
    Calls Try.prog 12 #[.slice A n c, .int .i64 m] w fun e w' => ∃ A' c', e = .returned (.slice A' n c') ∧ At w' 2 e2 A' n c' (fastT m l) ∧ Ext w w' := by
  have hl := h.len
  have HC := hide (cloneF_any h hb)
  have HV := hide hv
  have HL := hide hl
  clear h hv
  go_enter Try.func12, Try.ntmps12
  go_wp2_with fail
  refine HC.out.mono ?_
  rintro e w1 ⟨A1, c1, rfl, o1, e1⟩
  have O1 := hide o1
  have E1 := hide e1
  clear o1 e1 HC
  go_wp2
  have hbn : n ≤ 100000000 := hb
  go_loopw [11] (fun ri wr => ∃ k : Nat, k ≤ n ∧ ri = .int .i64 k ∧ Hid (Own wr w.heap.size 69 2 e2 (.slice A1 n c1) (fasK m l k)) ∧ Hid (Ext w wr)) (fun ri _ => n - (intOf ri).toNat)
  case atStart => exact ⟨0, by omega, rfl, by rw [fasK_zero]; exact O1, E1⟩
  case round =>
    clear O1 E1
    obtain ⟨k, hk, rfl, O1, E1⟩ := hrel
    by_cases hlt : k < n
    · obtain ⟨g, rfl, hg1, hg2⟩ := O1.out.where2 (by omega)
      obtain ⟨b1, b2⟩ := (O1.out.atS len_e2).pair hlt
      have hfz := O1.out.frozen2
      simp only [Nat.zero_add] at b1 b2
      rw [fasK_get m l k (by have := HL.out; omega)] at b1 b2
      obtain ⟨v1, v2⟩ := HV.out k (by have := HL.out; omega)
      have HSET := hide (O1.out.setB k ((l.getD k (0, 0)).2 + m))
      rw [fasK_get m l k (by have := HL.out; omega), fasK_step m l k (by have := HL.out; omega)] at HSET
      generalize (l.getD k (0, 0)).1 = x at *
      generalize (l.getD k (0, 0)).2 = y at *
      have i1 : IntKind.i64.wrap (y + m) = y + m := by rw [IntKind.wrap_i64]; omega
      go_wp2_with fail
      refine ⟨⟨k + 1, by omega, by rw [Int.natCast_add]; rfl, HSET, hide (Below.trans E1.out ((Tw.set_ wr g _ _ none).below E1.out.size hg1 (fun b hb => by cases hb)))⟩, by simp [intOf]; omega⟩
    · obtain rfl : k = n := by omega
      go_wp2_with fail
      go_ret
      have := HL.out
      subst this
      exact ⟨A1, c1, rfl, by have := O1.out.atS len_e2; rw [fasK_all] at this; exact this, E1.out⟩

set_option maxRecDepth 100000 in
set_option maxHeartbeats 4000000 in
theorem roomy_any {d0 s0 r0 f0 i0 k0 l0 t0 lo0 hi0 a0 x0 y0 z0 : Int} {w : World} :
    Calls Try.prog 13 #[.agg #[.int .i64 d0, .int .i64 s0, .int .i64 r0, .int .i64 f0, .int .i64 i0, .int .i64 k0, .int .i64 l0, .int .i64 t0, .int .i64 lo0, .int .i64 hi0, .int .i64 a0, .int .i64 x0, .int .i64 y0, .int .i64 z0]] w fun e w' =>
      e = .returned (.agg #[.int .i64 d0, .int .i64 s0, .int .i64 r0, .int .i64 1000000000, .int .i64 i0, .int .i64 k0, .int .i64 l0, .int .i64 t0, .int .i64 lo0, .int .i64 hi0, .int .i64 a0, .int .i64 x0, .int .i64 y0, .int .i64 z0]) ∧ Ext w w' := by
  go_enter Try.func13, Try.ntmps13
  go_wp2_with fail
  have S9 := Blk.new (w.alloc (.cells #[.int .i64 d0, .int .i64 s0, .int .i64 r0, .int .i64 1000000000, .int .i64 i0, .int .i64 k0, .int .i64 l0, .int .i64 t0, .int .i64 lo0, .int .i64 hi0, .int .i64 a0, .int .i64 x0, .int .i64 y0, .int .i64 z0] 30)) 30 #[.int .i64 d0, .int .i64 s0, .int .i64 r0, .int .i64 1000000000, .int .i64 i0, .int .i64 k0, .int .i64 l0, .int .i64 t0, .int .i64 lo0, .int .i64 hi0, .int .i64 a0, .int .i64 x0, .int .i64 y0, .int .i64 z0]
  have X9 : Ext w ((w.alloc (.cells #[.int .i64 d0, .int .i64 s0, .int .i64 r0, .int .i64 1000000000, .int .i64 i0, .int .i64 k0, .int .i64 l0, .int .i64 t0, .int .i64 lo0, .int .i64 hi0, .int .i64 a0, .int .i64 x0, .int .i64 y0, .int .i64 z0] 30)).alloc (.cells #[.int .i64 d0, .int .i64 s0, .int .i64 r0, .int .i64 1000000000, .int .i64 i0, .int .i64 k0, .int .i64 l0, .int .i64 t0, .int .i64 lo0, .int .i64 hi0, .int .i64 a0, .int .i64 x0, .int .i64 y0, .int .i64 z0] 30)) := ext_alloc (Ext.alloc _ _) _
  rw [World.size_alloc] at S9
  have k0' := S9.cell 0
  have k1' := S9.cell 1
  have k2' := S9.cell 2
  have k3' := S9.cell 3
  have k4' := S9.cell 4
  have k5' := S9.cell 5
  have k6' := S9.cell 6
  have k7' := S9.cell 7
  have k8' := S9.cell 8
  have k9' := S9.cell 9
  have k10' := S9.cell 10
  have k11' := S9.cell 11
  have k12' := S9.cell 12
  have k13' := S9.cell 13
  exact bodyPost_ret (v := .agg #[.int .i64 d0, .int .i64 s0, .int .i64 r0, .int .i64 1000000000, .int .i64 i0, .int .i64 k0, .int .i64 l0, .int .i64 t0, .int .i64 lo0, .int .i64 hi0, .int .i64 a0, .int .i64 x0, .int .i64 y0, .int .i64 z0]) (by simp [results, Try.results13, go_sem, k0', k1', k2', k3', k4', k5', k6', k7', k8', k9', k10', k11', k12', k13']) rfl ⟨rfl, X9⟩
end Go.Proofs.Ytjbgkoeojfmkkaa
