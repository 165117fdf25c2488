/- Films read, the bytes of tracks. No condition. -/
import Derived.Test.YtlonhkjplijlcaaMfd34
import Derived.Test.YtlonhkjplijlcaaMfd42
import Derived.Test.YtlonhkjplijlcaaMfd10
namespace Go.Proofs.Ytlonhkjplijlcaa
open Go.RowKit
structure DaI (w5 wr : World) (dO m : Nat) (hd : List (Option Addr × Nat × Nat)) (F : Nat → List UInt8) : Prop where
  own : Own wr w5.heap.size 26 1 eB1 (.slice (some ⟨dO, 0, none⟩) m m) hd
  rows : ∀ j, j < m → Own wr w5.heap.size 5 1 e8 (.slice (hd.getD j dQ).1 (hd.getD j dQ).2.1 (hd.getD j dQ).2.2) (F j)
  apart : ∀ j k, j < m → k < m → j ≠ k → ∀ g, (Value.slice (hd.getD j dQ).1 (hd.getD j dQ).2.1 (hd.getD j dQ).2.2).ownBlock = some g → (Value.slice (hd.getD k dQ).1 (hd.getD k dQ).2.1 (hd.getD k dQ).2.2).ownBlock ≠ some g
  ext : Ext w5 wr
theorem DaI.extW {w5 wr w' : World} {dO m : Nat} {hd : List (Option Addr × Nat × Nat)} {F : Nat → List UInt8} (h : DaI w5 wr dO m hd F) (he : Ext wr w') : DaI w5 w' dO m hd F :=
  ⟨h.own.ext he, fun j hj => (h.rows j hj).ext he, h.apart, Ext.trans h.ext he⟩
theorem DaI.fn {w5 wr : World} {dO m : Nat} {hd : List (Option Addr × Nat × Nat)} {F F' : Nat → List UInt8} (h : DaI w5 wr dO m hd F) (hF : ∀ j, j < m → F' j = F j) : DaI w5 wr dO m hd F' :=
  ⟨h.own, fun j hj => by rw [hF j hj]; exact h.rows j hj, h.apart, h.ext⟩
theorem DaI.start {w5 : World} {m : Nat} (hm : m ≤ maxLen) : DaI w5 (w5.alloc (.cells (madeCells #[Value.slice none 0 0] m) 26)) w5.heap.size m (List.replicate m dQ) (fun _ => []) := by
  have h9 := made_own (enc := eB1) (x := dQ) (t := 26) (z := #[Value.slice none 0 0]) (sz := 1) rfl rfl (by omega) w5 w5.heap.size m (Nat.le_refl _) hm
  rw [Nat.mul_one] at h9
  have e5 : ∀ j, j < m → (List.replicate m dQ).getD j dQ = dQ := fun j hj => by rw [List.getD_eq_getElem?_getD, List.getElem?_replicate, if_pos hj]; rfl
  refine ⟨h9, fun j hj => ?_, fun j k hj hk hne g hg => ?_, Ext.alloc _ _⟩
  · rw [e5 j hj]; exact Own.nil _ _ _ _ _
  · rw [e5 j hj] at hg; cases hg
theorem DaI.app {w5 wr w6 w7 : World} {dO m i : Nat} {hd : List (Option Addr × Nat × Nat)} {F : Nat → List UInt8} {vA : Option Addr} {vn vc : Nat} {l : List UInt8} (h : DaI w5 wr dO m hd F) (he : Ext wr w6) (hi : i < m) (ho : Own w7 w5.heap.size 5 1 e8 (.slice vA vn vc) (F i ++ l))
    (hg : w6.grownBy w7 (Value.slice (hd.getD i dQ).1 (hd.getD i dQ).2.1 (hd.getD i dQ).2.2).ownBlock) (hr : (Value.slice vA vn vc).ownBlock = (Value.slice (hd.getD i dQ).1 (hd.getD i dQ).2.1 (hd.getD i dQ).2.2).ownBlock ∨ (Value.slice vA vn vc).ownBlock = some w6.heap.size) :
    DaI w5 (w7.setCell ⟨dO, i, none⟩ (.slice vA vn vc)) dO m (hd.set i (vA, vn, vc)) (fun j => if j = i then F i ++ l else F j) := by
  have hown6 := h.own.ext he
  have hl : hd.length = m := hown6.len len_eB1
  obtain ⟨c6, hc6⟩ := hown6.blkOf
  have hri := (h.rows i hi).ext he
  have hne : (Value.slice (hd.getD i dQ).1 (hd.getD i dQ).2.1 (hd.getD i dQ).2.2).ownBlock ≠ some dO := hri.apartB hc6 (by decide)
  have hc7 : Blk w7 dO 26 c6 := (hg.block dO hc6.lt (fun e => hne e.symm)).trans hc6
  have hown7 : Own w7 w5.heap.size 26 1 eB1 (.slice (some ⟨dO, 0, none⟩) m m) hd := hown6.kept hg (.inr (fun e => hne e.symm))
  have hT := Tw.set_ w7 dO i (.slice vA vn vc) none
  have hlt := h.ext.size
  have hsz := he.size
  refine ⟨?_, fun j hj => ?_, fun j k hj hk hjk g hg1 => ?_, ?_⟩
  · have := hown7.setAt len_eB1 i dQ (vA, vn, vc) 0 (.slice vA vn vc) hi (by omega) rfl
    simpa using this
  · by_cases hji : j = i
    · subst hji
      rw [getD_set_self (by omega), if_pos rfl]
      exact ho.tw hT (ho.apartB hc7 (by decide)) (by simp)
    · rw [getD_set_other hji, if_neg hji]
      have h6 := (h.rows j hj).ext he
      have h7 := h6.kept hg (by
        cases hv : (Value.slice (hd.getD j dQ).1 (hd.getD j dQ).2.1 (hd.getD j dQ).2.2).ownBlock with
        | none => exact .inl rfl
        | some g => exact .inr (fun e => h.apart j i hj hi hji g hv e.symm))
      exact h7.tw hT (h7.apartB hc7 (by decide)) (by simp)
  · have key : ∀ q, q < m → q ≠ i → ∀ g, (Value.slice (hd.getD q dQ).1 (hd.getD q dQ).2.1 (hd.getD q dQ).2.2).ownBlock = some g → (Value.slice vA vn vc).ownBlock ≠ some g := fun q hq hqi g hgq e => by
      rcases hr with hr | hr
      · rw [hr] at e; exact h.apart q i hq hi hqi g hgq e
      · rw [hr] at e
        have := ((h.rows q hq).lt g hgq).2
        injection e with e; omega
    by_cases hji : j = i
    · subst hji
      rw [getD_set_self (by omega)] at hg1
      rw [getD_set_other (fun e => hjk e.symm)]
      intro e
      exact key k hk (fun e => hjk e.symm) g e hg1
    · rw [getD_set_other hji] at hg1
      by_cases hki : k = i
      · subst hki
        rw [getD_set_self (by omega)]
        exact key j hj hji g hg1
      · rw [getD_set_other hki]
        exact h.apart j k hj hk hjk g hg1
  · have h1 : Ext w5 w7 := Own.below hri (Ext.trans h.ext he) hg (Nat.le_refl _)
    exact tw_ext' h1 hT (h.own.lt dO rfl).1
theorem RdI.lowTw {w w' : World} {rb o : Nat} {sc : Int} {tv bv : Value} {a : Int} {hs : List TrkH} {l : List TrkT} {ts : List TbH} {tl : List Tab} (h : RdI w rb sc tv bv a hs l ts tl) (hT : Tw w w' o none) (ho : o < rb) : RdI w' rb sc tv bv a hs l ts tl := by
  obtain ⟨h1, h2, h3, h4, h5, G, g1, g2, g3⟩ := h
  have hk : ∀ k, G k → w'.heap[k]? = w.heap[k]? := fun k hk => hT.block k (g1 k hk).2.1 (by have := (g1 k hk).1; omega) (by simp)
  exact ⟨hT.blk h1 (by omega) (by simp), h2.tw hT (fun e => by have := (h2.lt _ e).1; omega) (fun g hg e => by cases e), h3.tw hT (fun e => by have := (h3.lt _ e).1; omega) (fun g hg e => by cases e), h4, h5, G,
    fun k hk => ⟨(g1 k hk).1, Nat.lt_of_lt_of_le (g1 k hk).2.1 hT.size, (g1 k hk).2.2⟩, fun i y x hy hx => (g2 i y x hy hx).good hk (fun _ h => h), fun i y x hy hx => (g3 i y x hy hx).good hk (fun _ h => h)⟩
theorem RdI.tks {w : World} {rb : Nat} {sc : Int} {tA : Option Addr} {m tc : Nat} {bv : Value} {a : Int} {hs : List TrkH} {l : List TrkT} {ts : List TbH} {tl : List Tab} (h : RdI w rb sc (.slice tA m tc) bv a hs l ts tl) : TksAt w tA m tc hs l := by
  obtain ⟨_, k2, _, k4, _, G, _, g2, _⟩ := h
  have hlh : hs.length = m := k2.len len_eTk
  refine ⟨k2.atS len_eTk, by omega, fun j hj => ?_⟩
  have e1 : hs[j]? = some (hs.getD j default) := by rw [List.getD_eq_getElem?_getD, List.getElem?_eq_getElem (by omega)]; rfl
  have e2 : l[j]? = some (l.getD j default) := by rw [List.getD_eq_getElem?_getD, List.getElem?_eq_getElem (by omega)]; rfl
  exact (g2 j _ _ e1 e2).ok
theorem DaI.lowTw {w5 wr w' : World} {dO m o : Nat} {hd : List (Option Addr × Nat × Nat)} {F : Nat → List UInt8} (h : DaI w5 wr dO m hd F) (hT : Tw wr w' o none) (ho : o < w5.heap.size) (D : List (List UInt8)) (hD : D.length = m) (hF : ∀ j, j < m → D.getD j [] = F j) : DtsAt w' (some ⟨dO, 0, none⟩) m m hd D :=
  ⟨(h.own.tw hT (fun e => by have := (h.own.lt _ e).1; omega) (fun g hg e => by cases e)).atS len_eB1, hD, fun j hj => by rw [hF j hj]; exact ((h.rows j hj).tw hT (fun e => by have := ((h.rows j hj).lt _ e).1; omega) (fun g hg e => by cases e)).atS len_e8⟩
def dF (b : List UInt8) (r : List TrR) (i k j : Nat) : List UInt8 :=
  if j < i then spB b (spS (r.getD j default).tab) else if j = i then spB b ((spS (r.getD i default).tab).take k) else []
theorem spB_app (b : List UInt8) (x y : List (Int × Int)) : spB b (x ++ y) = spB b x ++ spB b y := by unfold spB; rw [List.flatMap_append]
theorem spB_one (b : List UInt8) (x : Int × Int) : spB b [x] = pcB b x.1.toNat (x.1 + x.2).toNat := by unfold spB; simp
theorem spB_take {b : List UInt8} {s : List (Int × Int)} {k : Nat} (h : k < s.length) : spB b (s.take (k + 1)) = spB b (s.take k) ++ pcB b (s.getD k (0, 0)).1.toNat ((s.getD k (0, 0)).1 + (s.getD k (0, 0)).2).toNat := by
  rw [List.take_succ_eq_append_getElem h, spB_app, spB_one, List.getD_eq_getElem?_getD, List.getElem?_eq_getElem h]; rfl
theorem spB_none {b : List UInt8} {s : List (Int × Int)} {k : Nat} (h : k < s.length) (h0 : (s.getD k (0, 0)).2 = 0) : spB b (s.take (k + 1)) = spB b (s.take k) := by
  rw [spB_take h, h0, Int.add_zero]
  unfold pcB
  rw [Nat.sub_self, List.take_zero, List.append_nil]
theorem dF_more {b : List UInt8} {r : List TrR} {i k : Nat} {l : List UInt8} (h : spB b ((spS (r.getD i default).tab).take (k + 1)) = spB b ((spS (r.getD i default).tab).take k) ++ l) : ∀ j, dF b r i (k + 1) j = if j = i then dF b r i k i ++ l else dF b r i k j := fun j => by
  unfold dF
  by_cases hj : j = i
  · subst hj
    rw [if_neg (by omega), if_pos rfl, if_pos rfl, if_neg (by omega), if_pos rfl, h]
  · rw [if_neg hj, if_neg hj, if_neg hj]
theorem dF_same {b : List UInt8} {r : List TrR} {i k : Nat} (h : spB b ((spS (r.getD i default).tab).take (k + 1)) = spB b ((spS (r.getD i default).tab).take k)) : ∀ j, dF b r i (k + 1) j = dF b r i k j := fun j => by
  unfold dF
  rw [h]
theorem dF_next (b : List UInt8) (r : List TrR) (i : Nat) : ∀ j, dF b r (i + 1) 0 j = dF b r i (spS (r.getD i default).tab).length j := fun j => by
  unfold dF
  by_cases h1 : j < i
  · rw [if_pos (by omega), if_pos h1]
  · by_cases h2 : j = i
    · subst h2
      rw [if_pos (by omega), if_neg h1, if_pos rfl, List.take_length]
    · rw [if_neg (by omega), if_neg h1, if_neg h2]
      by_cases h3 : j = i + 1
      · rw [if_pos h3, List.take_zero]; rfl
      · rw [if_neg h3]
theorem dF_zero (b : List UInt8) (r : List TrR) : ∀ j, dF b r 0 0 j = [] := fun j => by
  unfold dF
  rw [if_neg (by omega)]
  split
  · rw [List.take_zero]; rfl
  · rfl
theorem spB_len {b : List UInt8} {s : List (Int × Int)} (h : ∀ x ∈ s, 0 ≤ x.1 ∧ x.2 ≤ 100000) : (spB b s).length ≤ 100000 * s.length := by
  induction s with
  | nil => simp [spB]
  | cons x s ih =>
    have h1 := ih (fun y hy => h y (List.mem_cons_of_mem _ hy))
    have h2 := h x (by simp)
    have e : spB b (x :: s) = spB b [x] ++ spB b s := spB_app b [x] s
    rw [e, List.length_append, spB_one, List.length_cons]
    unfold pcB
    rw [List.length_take]
    omega
theorem sp_right {t : Tab} (h : expF t = 0) : (spS t).length ≤ 5000 ∧ ∀ i, i < (spS t).length → (0 ≤ ((spS t).getD i (0, 0)).1 ∧ ((spS t).getD i (0, 0)).1 ≤ 1000000000) ∧ (0 ≤ ((spS t).getD i (0, 0)).2 ∧ ((spS t).getD i (0, 0)).2 ≤ 100000) := by
  have hf : tabF t = 0 := by
    unfold expF at h
    split at h
    · rename_i hn; exact absurd h hn
    · rename_i hn; exact Classical.not_not.1 hn
  have hR := tab_right hf
  refine ⟨?_, fun i hi => spS_bd hR hi⟩
  rw [spS_len hR]
  have h1 := exN_eq hR
  have h2 := hR.few
  omega
theorem spB_few {b : List UInt8} {t : Tab} (h : expF t = 0) (k : Nat) : (spB b ((spS t).take k)).length ≤ 500000000 := by
  obtain ⟨h1, h2⟩ := sp_right h
  have h3 : (spB b ((spS t).take k)).length ≤ 100000 * ((spS t).take k).length := spB_len (fun x hx => by
    have hx2 := List.mem_of_mem_take hx
    obtain ⟨i, hi, rfl⟩ := List.getElem_of_mem hx2
    have := h2 i hi
    rw [List.getD_eq_getElem?_getD, List.getElem?_eq_getElem hi] at this
    exact ⟨this.1.1, this.2.2⟩)
  rw [List.length_take] at h3
  omega
theorem okSp_in {b : List UInt8} {l : List NodeT} {p z : Int} (hen : ∀ x ∈ l, x.en ≤ b.length) (h : okSp l (p, z) = true) (hz : 0 < z) : p + z ≤ (b.length : Int) := by
  unfold okSp at h
  rw [Bool.or_eq_true] at h
  rcases h with h | h
  · unfold inD at h
    obtain ⟨x, hx, hp⟩ := List.any_eq_true.1 h
    have h2 := of_decide_eq_true hp
    have := hen x hx
    omega
  · have := of_decide_eq_true h
    simp only at this
    omega
end Go.Proofs.Ytlonhkjplijlcaa
