/- Films read, the second half: samples are laid into tracks; plain facts. No condition. -/
import Derived.Test.YtlonhkjplijlcaaMfd30
import Derived.Test.YtlonhkjplijlcaaMfd33
namespace Go.Proofs.Ytlonhkjplijlcaa
open Go.RowKit
theorem flat_setAt {α : Type} {enc : α → List Value} {sz : Nat} (hsz : ∀ x, (enc x).length = sz) : ∀ (xs : List α) (k : Nat) (d x : α) (j : Nat) (u : Value), k < xs.length → j < sz → enc x = (enc (xs.getD k d)).set j u → (xs.flatMap enc).set (k * sz + j) u = (xs.set k x).flatMap enc
  | [], k, _, _, _, _, hk, _, _ => by simp at hk
  | y :: ys, 0, d, x, j, u, _, hj, hu => by
    have hy := hsz y
    rw [List.set_cons_zero, List.flatMap_cons, List.flatMap_cons, hu, Nat.zero_mul, Nat.zero_add, List.set_append_left _ _ (by omega)]
    rfl
  | y :: ys, k + 1, d, x, j, u, hk, hj, hu => by
    have hy := hsz y
    have hk2 : k < ys.length := by simpa using hk
    rw [List.set_cons_succ, List.flatMap_cons, List.flatMap_cons, ← flat_setAt hsz ys k d x j u hk2 hj hu, List.set_append_right _ _ (by rw [hy, Nat.add_mul]; omega), hy]
    congr 2
    rw [Nat.add_mul]; omega
theorem Own.rowN {α : Type} {w : World} {base : Nat} {t : TypeId} {sz : Nat} {enc : α → List Value} {g n c : Nat} {xs : List α} (h : Own w base t sz enc (.slice (some ⟨g, 0, none⟩) n c) xs) :
    ∃ cur, Blk w g t cur ∧ n ≤ c ∧ c ≤ maxLen ∧ cur.size = c * sz ∧ xs.length = n ∧ cur.toList.take (n * sz) = xs.flatMap enc ∧ base ≤ g := by
  obtain ⟨h0, h⟩ := h
  rcases h with ⟨hv, _⟩ | ⟨g', cap, cur, hv, hb, hg, hnc, hcm, hcs, ht⟩
  · cases hv
  · injection hv with h1 h2 h3
    injection h1 with h1
    injection h1 with h1
    subst h1 h3
    exact ⟨cur, hg, by omega, hcm, hcs, h2.symm, by rw [h2]; exact ht, hb⟩
theorem Own.setAt {α : Type} {w : World} {base : Nat} {t : TypeId} {sz : Nat} {enc : α → List Value} {g n c : Nat} {xs : List α} (hsz : ∀ x, (enc x).length = sz) (h : Own w base t sz enc (.slice (some ⟨g, 0, none⟩) n c) xs) (k : Nat) (d x : α) (j : Nat) (u : Value) (hk : k < n) (hj : j < sz) (hu : enc x = (enc (xs.getD k d)).set j u) :
    Own (w.setCell ⟨g, k * sz + j, none⟩ u) base t sz enc (.slice (some ⟨g, 0, none⟩) n c) (xs.set k x) := by
  obtain ⟨cur, hg, hnc, hcm, hcs, hl, ht, hb⟩ := h.rowN
  refine ⟨flat_len hsz _, .inr ⟨g, c, _, by rw [List.length_set, hl], hb, hg.set_ _ u, by rw [List.length_set, hl]; exact hnc, hcm, by simp [hcs], ?_⟩⟩
  rw [List.length_set, hl, Array.toList_setIfInBounds, List.take_set, ht]
  exact flat_setAt hsz xs k d x j u (by omega) hj hu
theorem Own.blkOf {α : Type} {w : World} {base : Nat} {t : TypeId} {sz : Nat} {enc : α → List Value} {g n c : Nat} {xs : List α} (h : Own w base t sz enc (.slice (some ⟨g, 0, none⟩) n c) xs) : ∃ cur, Blk w g t cur := by
  obtain ⟨cur, hg, _⟩ := h.rowN
  exact ⟨cur, hg⟩
def setS (l : List TrkT) (i : Nat) (sm : List Smp) : List TrkT := l.set i ⟨(l.getD i default).name, (l.getD i default).scale, sm, (l.getD i default).ed⟩
def setH (l : List TrkH) (i : Nat) (A : Option Addr) (n c : Nat) : List TrkH := l.set i ⟨(l.getD i default).name, (l.getD i default).scale, A, n, c, (l.getD i default).eA, (l.getD i default).en, (l.getD i default).ec⟩
theorem get_set {α : Type} {l : List α} {i j : Nat} {x y : α} (h : (l.set i x)[j]? = some y) : (j = i ∧ y = x) ∨ (j ≠ i ∧ l[j]? = some y) := by
  rw [List.getElem?_set] at h
  split at h
  · rename_i hij
    split at h
    · injection h with h; exact .inl ⟨hij.symm, h.symm⟩
    · cases h
  · rename_i hij
    exact .inr ⟨fun e => hij e.symm, h⟩
structure RdN (w : World) (rb : Nat) (sc : Int) (tv bv : Value) (a : Int) (hs : List TrkH) (l : List TrkT) (ts : List TbH) (tl : List Tab) (no : Nat) : Prop where
  blk : Blk w rb 66 (frC sc tv bv a)
  trk : Own w (rb + 1) 53 4 eTk tv hs
  tab : Own w (rb + 1) 73 7 eTb bv ts
  len : hs.length = l.length
  lenB : ts.length = tl.length
  els : ∃ G : Nat → Prop, (∀ k, G k → rb < k ∧ k < w.heap.size ∧ tv.ownBlock ≠ some k ∧ bv.ownBlock ≠ some k ∧ k ≠ no) ∧ (∀ (i : Nat) (y : TrkH) (x : TrkT), hs[i]? = some y → l[i]? = some x → TkG w G y x) ∧ (∀ (i : Nat) (y : TbH) (x : Tab), ts[i]? = some y → tl[i]? = some x → TbOk w G y x)
theorem RdN.rd {w : World} {rb : Nat} {sc : Int} {tv bv : Value} {a : Int} {hs : List TrkH} {l : List TrkT} {ts : List TbH} {tl : List Tab} {no : Nat} (h : RdN w rb sc tv bv a hs l ts tl no) : RdI w rb sc tv bv a hs l ts tl := by
  obtain ⟨h1, h2, h3, h4, h5, G, g1, g2, g3⟩ := h
  exact ⟨h1, h2, h3, h4, h5, G, fun k hk => ⟨(g1 k hk).1, (g1 k hk).2.1, (g1 k hk).2.2.1, (g1 k hk).2.2.2.1⟩, g2, g3⟩
theorem RdN.of {w w' : World} {rb : Nat} {sc : Int} {tv bv : Value} {a : Int} {hs : List TrkH} {l : List TrkT} {ts : List TbH} {tl : List Tab} {no : Nat} (h : RdI w rb sc tv bv a hs l ts tl) (he : Ext w w') (hno : w.heap.size ≤ no) : RdN w' rb sc tv bv a hs l ts tl no := by
  obtain ⟨h1, h2, h3, h4, h5, G, g1, g2, g3⟩ := h
  have hk : ∀ k, G k → w'.heap[k]? = w.heap[k]? := fun k hk => he.block k (g1 k hk).2.1
  exact ⟨h1.ext he, h2.ext he, h3.ext he, h4, h5, G, fun k hk => ⟨(g1 k hk).1, Nat.lt_of_lt_of_le (g1 k hk).2.1 he.size, (g1 k hk).2.2.1, (g1 k hk).2.2.2, by have := (g1 k hk).2.1; omega⟩, fun i y x hy hx => (g2 i y x hy hx).good hk (fun _ h => h), fun i y x hy hx => (g3 i y x hy hx).good hk (fun _ h => h)⟩
theorem RdN.ext {w w' : World} {rb : Nat} {sc : Int} {tv bv : Value} {a : Int} {hs : List TrkH} {l : List TrkT} {ts : List TbH} {tl : List Tab} {no : Nat} (h : RdN w rb sc tv bv a hs l ts tl no) (he : Ext w w') : RdN w' rb sc tv bv a hs l ts tl no := by
  obtain ⟨h1, h2, h3, h4, h5, G, g1, g2, g3⟩ := h
  have hk : ∀ k, G k → w'.heap[k]? = w.heap[k]? := fun k hk => he.block k (g1 k hk).2.1
  exact ⟨h1.ext he, h2.ext he, h3.ext he, h4, h5, G, fun k hk => ⟨(g1 k hk).1, Nat.lt_of_lt_of_le (g1 k hk).2.1 he.size, (g1 k hk).2.2⟩, fun i y x hy hx => (g2 i y x hy hx).good hk (fun _ h => h), fun i y x hy hx => (g3 i y x hy hx).good hk (fun _ h => h)⟩
theorem RdN.tw {w w' : World} {rb : Nat} {sc : Int} {tv bv : Value} {a : Int} {hs : List TrkH} {l : List TrkT} {ts : List TbH} {tl : List Tab} {no : Nat} {t : TypeId} {cs : Array Value} (h : RdN w rb sc tv bv a hs l ts tl no) (hT : Tw w w' no none) (hb : Blk w no t cs) (t1 : 66 ≠ t) (t2 : 53 ≠ t) (t3 : 73 ≠ t) : RdN w' rb sc tv bv a hs l ts tl no := by
  obtain ⟨h1, h2, h3, h4, h5, G, g1, g2, g3⟩ := h
  have hk : ∀ k, G k → w'.heap[k]? = w.heap[k]? := fun k hk => hT.block k (g1 k hk).2.1 (g1 k hk).2.2.2.2 (by simp)
  exact ⟨Blk.off h1 hb hT t1, h2.tw hT (h2.apartB hb t2) (by simp), h3.tw hT (h3.apartB hb t3) (by simp), h4, h5, G, fun k hk => ⟨(g1 k hk).1, Nat.lt_of_lt_of_le (g1 k hk).2.1 hT.size, (g1 k hk).2.2⟩, fun i y x hy hx => (g2 i y x hy hx).good hk (fun _ h => h), fun i y x hy hx => (g3 i y x hy hx).good hk (fun _ h => h)⟩
theorem RdN.smp {w : World} {rb : Nat} {sc : Int} {tO tn tc : Nat} {bv : Value} {a : Int} {hs : List TrkH} {l : List TrkT} {ts : List TbH} {tl : List Tab} {no i : Nat} {sA : Option Addr} {sn sc' : Nat} {sm : List Smp} {t : TypeId} {cs : Array Value}
    (h : RdN w rb sc (.slice (some ⟨tO, 0, none⟩) tn tc) bv a hs l ts tl no) (hi : i < tn) (ho : Own w (rb + 1) 55 5 eSm (.slice sA sn sc') sm) (hb : Blk w no t cs) (hst : 55 ≠ t) :
    RdN (w.setCell ⟨tO, i * 4 + 2, none⟩ (.slice sA sn sc')) rb sc (.slice (some ⟨tO, 0, none⟩) tn tc) bv a (setH hs i sA sn sc') (setS l i sm) ts tl no := by
  obtain ⟨h1, h2, h3, h4, h5, G, g1, g2, g3⟩ := h
  obtain ⟨cur, hcur, _, _, _, hln, _, hlo⟩ := h2.rowN
  have hT := Tw.set_ w tO (i * 4 + 2) (.slice sA sn sc') none
  have hk : ∀ k, G k → (w.setCell ⟨tO, i * 4 + 2, none⟩ (.slice sA sn sc')).heap[k]? = w.heap[k]? := fun k hk => hT.block k (g1 k hk).2.1 (fun e => (g1 k hk).2.2.1 (by rw [e]; rfl)) (by simp)
  have hk2 : ∀ k, (Value.slice sA sn sc').ownBlock = some k → (w.setCell ⟨tO, i * 4 + 2, none⟩ (.slice sA sn sc')).heap[k]? = w.heap[k]? := fun k hk => hT.block k (ho.lt k hk).2 (fun e => ho.apartB hcur (by decide) (by rw [hk, e])) (by simp)
  refine ⟨Blk.off h1 hcur hT (by decide), h2.setAt len_eTk i default _ 2 _ hi (by omega) rfl, h3.tw hT (h3.apartB hcur (by decide)) (by simp), by unfold setH setS; rw [List.length_set, List.length_set]; exact h4, h5, fun k => G k ∨ (Value.slice sA sn sc').ownBlock = some k, fun k hk => ?_, fun j y x hy hx => ?_, fun j y x hy hx => (g3 j y x hy hx).good hk (fun _ h => .inl h)⟩
  · rcases hk with hk | hk
    · exact ⟨(g1 k hk).1, Nat.lt_of_lt_of_le (g1 k hk).2.1 hT.size, (g1 k hk).2.2⟩
    · exact ⟨by have := (ho.lt k hk).1; omega, Nat.lt_of_lt_of_le (ho.lt k hk).2 hT.size, fun e => ho.apart h2 (by decide) k hk e, fun e => ho.apart h3 (by decide) k hk e, fun e => ho.apartB hb hst (by rw [hk, e])⟩
  · unfold setH at hy
    unfold setS at hx
    rcases get_set hy with ⟨rfl, rfl⟩ | ⟨hj, hy1⟩
    · rcases get_set hx with ⟨_, rfl⟩ | ⟨hj, _⟩
      · have e1 : hs[j]? = some (hs.getD j default) := by rw [List.getD_eq_getElem?_getD, List.getElem?_eq_getElem (by omega)]; rfl
        have e2 : l[j]? = some (l.getD j default) := by rw [List.getD_eq_getElem?_getD, List.getElem?_eq_getElem (by omega)]; rfl
        have q := (g2 j _ _ e1 e2).good hk (fun _ h => h)
        exact ⟨⟨q.ok.1, q.ok.2.1, (ho.atS len_eSm).goodH (G := fun k => (Value.slice sA sn sc').ownBlock = some k) (fun _ a ha => by subst ha; rfl) hk2, q.ok.2.2.2⟩, fun _ a ha => .inr (by subst ha; rfl), q.l2.mono (fun _ h => .inl h)⟩
      · exact absurd rfl hj
    · rcases get_set hx with ⟨e, _⟩ | ⟨_, hx1⟩
      · exact absurd e hj
      · exact (g2 j y x hy1 hx1).good hk (fun _ h => .inl h)
def mixL (r : List TrR) (i : Nat) : List TrkT := (r.take i).map trkOf ++ (r.drop i).map trk0
theorem mixL_zero (r : List TrR) : mixL r 0 = r.map trk0 := by simp [mixL]
theorem mixL_all (r : List TrR) : mixL r r.length = r.map trkOf := by simp [mixL]
theorem mixL_succ {r : List TrR} {i : Nat} (hi : i < r.length) : setS (mixL r i) i (exS (r.getD i default).tab) = mixL r (i + 1) := by
  have e : r.drop i = r.getD i default :: r.drop (i + 1) := by
    rw [List.getD_eq_getElem?_getD, List.getElem?_eq_getElem hi]
    exact List.drop_eq_getElem_cons hi
  have e2 : r.take (i + 1) = r.take i ++ [r.getD i default] := by
    rw [List.getD_eq_getElem?_getD, List.getElem?_eq_getElem hi]
    exact List.take_succ_eq_append_getElem hi
  have hl : ((r.take i).map trkOf).length = i := by rw [List.length_map, List.length_take]; omega
  have hg : (mixL r i).getD i default = trk0 (r.getD i default) := by
    unfold mixL
    rw [e, List.map_cons, List.getD_eq_getElem?_getD, List.getElem?_append_right (by omega), hl, Nat.sub_self]; rfl
  unfold setS
  rw [hg]
  unfold mixL
  rw [e, e2, List.map_append, List.map_cons, List.set_append_right _ _ (by omega), hl, Nat.sub_self, List.set_cons_zero, List.append_assoc]
  rfl
structure TbFew (t : Tab) : Prop where
  s : t.steps.length ≤ 1000000
  h : t.shifts.length ≤ 1000000
  z : t.sizes.length ≤ 1000000
  k : t.keys.length ≤ 1000000
  c : t.chunks.length ≤ 1000000
  p : t.places.length ≤ 1000000
theorem prL_len (l : List Int) : (prL l).length = l.length / 2 := prK_len _ _
theorem rtV_fw {b : List UInt8} (h : b.length ≤ 1000000) : TbFew (rtV b) := by
  unfold rtV
  split
  · obtain ⟨h1, h2, h3, h5, h6, h7⟩ := r_few b
    exact ⟨by show (prL _).length ≤ _; rw [prL_len]; omega, by show (prL _).length ≤ _; rw [prL_len]; omega, by show (r3F b).1.length ≤ _; omega, by show (r5F b).1.length ≤ _; omega, by show (prL _).length ≤ _; rw [prL_len]; omega, by show (r7F b).1.length ≤ _; omega⟩
  · exact ⟨Nat.zero_le _, Nat.zero_le _, Nat.zero_le _, Nat.zero_le _, Nat.zero_le _, Nat.zero_le _⟩
structure OkR (b : List UInt8) (r : List TrR) : Prop where
  nm : ∀ t ∈ r, t.name.length ≤ b.length
  tab : ∀ t ∈ r, TbFew t.tab
theorem trkR_okR {b : List UInt8} {n : NodeT} {t : TrR} (hb : b.length ≤ 1000000) (h : trkR b n = .ok t) : t.name.length ≤ b.length ∧ TbFew t.tab := by
  unfold trkR at h
  cases h0 : kidR n.kids 0 kName n.en with
  | bad a => rw [h0] at h; cases h
  | ok x0 =>
    cases h1 : kidR n.kids 1 kRate n.en with
    | bad a => rw [h0, h1] at h; cases h
    | ok x1 =>
      rw [h0, h1] at h
      simp only [Rdr.then] at h
      split at h
      · cases h
      · cases h2 : kidR n.kids 2 kEdit n.en with
        | bad a => rw [h2] at h; cases h
        | ok x2 =>
          rw [h2] at h
          simp only at h
          split at h
          · cases h
          · cases h3 : kidR n.kids 3 kTabl n.en with
            | bad a => rw [h3] at h; cases h
            | ok x3 =>
              rw [h3] at h
              simp only at h
              split at h
              · cases h
              · split at h
                · cases h
                · cases h
                  exact ⟨ctB_le b x0, rtV_fw (Nat.le_trans (ctB_le b x3) hb)⟩
theorem trksK_okR {b : List UInt8} {l : List NodeT} (hb : b.length ≤ 1000000) : ∀ {k : Nat} {r : List TrR}, trksK b l k = .ok r → OkR b r ∧ r.length ≤ k
  | 0, r, h => by cases h; exact ⟨⟨fun t ht => (by cases ht), fun t ht => by cases ht⟩, Nat.le_refl _⟩
  | k + 1, r, h => by
    rw [trksK] at h
    cases h1 : trksK b l k with
    | bad a => rw [h1] at h; cases h
    | ok r1 =>
      have ih := trksK_okR hb h1
      rw [h1] at h
      simp only [Rdr.then] at h
      split at h
      · cases h; exact ⟨ih.1, by omega⟩
      · split at h
        · rename_i x _ _
          cases ht : trkR b x with
          | bad a => rw [ht] at h; cases h
          | ok t =>
            rw [ht] at h
            cases h
            have hq := trkR_okR hb ht
            refine ⟨⟨fun t' ht' => ?_, fun t' ht' => ?_⟩, by simp; omega⟩
            · rcases List.mem_append.1 ht' with h | h
              · exact ih.1.nm _ h
              · rw [List.mem_singleton] at h; subst h; exact hq.1
            · rcases List.mem_append.1 ht' with h | h
              · exact ih.1.tab _ h
              · rw [List.mem_singleton] at h; subst h; exact hq.2
        · cases h
theorem filR_okR {b : List UInt8} {n : NodeT} {g : Int × List TrR} (hb : b.length ≤ 1000000) (h : filR b n = .ok g) : OkR b g.2 ∧ g.2.length ≤ n.kids.length := by
  unfold filR at h
  cases h0 : kidR n.kids 0 kHead b.length with
  | bad a => rw [h0] at h; cases h
  | ok x0 =>
    rw [h0] at h
    simp only [Rdr.then] at h
    split at h
    · cases h
    · cases h1 : trksK b n.kids (n.kids.length - 1) with
      | bad a => rw [h1] at h; cases h
      | ok r =>
        rw [h1] at h
        cases h
        have := trksK_okR hb h1
        exact ⟨this.1, by have := this.2; show r.length ≤ _; omega⟩
theorem topK_okR {b : List UInt8} {l : List NodeT} (hb : b.length ≤ 1000000) (hl : ∀ x ∈ l, x.kids.length ≤ 1000000) : ∀ {k : Nat} {g : Int × List TrR}, topK b l k = .ok (some g) → OkR b g.2 ∧ g.2.length ≤ 1000000
  | 0, g, h => by cases h
  | k + 1, g, h => by
    rw [topK] at h
    cases h1 : topK b l k with
    | bad a => rw [h1] at h; cases h
    | ok f =>
      rw [h1] at h
      simp only [Rdr.then] at h
      split at h
      · cases h; exact topK_okR hb hl h1
      · rename_i x hx
        split at h
        · cases f with
          | some g2 => cases h
          | none =>
            simp only at h
            cases h2 : filR b x with
            | bad a => rw [h2] at h; cases h
            | ok g2 =>
              rw [h2] at h
              cases h
              have := filR_okR hb h2
              have hm : x ∈ l := List.mem_of_getElem? hx
              exact ⟨this.1, Nat.le_trans this.2 (hl x hm)⟩
        · cases h; exact topK_okR hb hl h1
theorem topR_okR {b : List UInt8} {l : List NodeT} {g : Int × List TrR} (hb : b.length ≤ 1000000) (hl : ∀ x ∈ l, x.kids.length ≤ 1000000) (h : topR b l = .ok g) : OkR b g.2 ∧ g.2.length ≤ 1000000 := by
  unfold topR at h
  cases h1 : topK b l l.length with
  | bad a => rw [h1] at h; cases h
  | ok f =>
    rw [h1] at h
    cases f with
    | none => cases h
    | some g2 => cases h; exact topK_okR hb hl h1
def S11 (rb gb : Nat) (tv : Value) (y : TbH) (W : World) : Prop :=
  W.cell? ⟨rb, 1, none⟩ = some tv ∧ W.cell? ⟨gb, 0, none⟩ = some (.int .i64 y.start) ∧ W.cell? ⟨gb, 1, none⟩ = some (.slice y.sA y.sn y.sc) ∧ W.cell? ⟨gb, 2, none⟩ = some (.slice y.hA y.hn y.hc) ∧ W.cell? ⟨gb, 3, none⟩ = some (.slice y.zA y.zn y.zc) ∧ W.cell? ⟨gb, 4, none⟩ = some (.slice y.kA y.kn y.kc) ∧ W.cell? ⟨gb, 5, none⟩ = some (.slice y.cA y.cn y.cc) ∧ W.cell? ⟨gb, 6, none⟩ = some (.slice y.pA y.pn y.pc)
theorem S11.of {W : World} {rb gb : Nat} {sc : Int} {tv bv : Value} {a : Int} {y : TbH} (h : Blk W rb 66 (frC sc tv bv a)) (hg : Blk W gb 73 #[.int .i64 y.start, .slice y.sA y.sn y.sc, .slice y.hA y.hn y.hc, .slice y.zA y.zn y.zc, .slice y.kA y.kn y.kc, .slice y.cA y.cn y.cc, .slice y.pA y.pn y.pc]) : S11 rb gb tv y W :=
  ⟨h.cell 1, hg.cell 0, hg.cell 1, hg.cell 2, hg.cell 3, hg.cell 4, hg.cell 5, hg.cell 6⟩
abbrev dQ : Option Addr × Nat × Nat := (none, 0, 0)
structure ExI (w2 wr : World) (rb : Nat) (sc : Int) (tv bv : Value) (r : List TrR) (i : Nat) (pO n : Nat) (hs : List TrkH) (ts : List TbH) (hp : List (Option Addr × Nat × Nat)) : Prop where
  rd : RdN wr rb sc tv bv 0 hs (mixL r i) ts (r.map TrR.tab) pO
  pls : Own wr (rb + 1) 74 1 eB1 (.slice (some ⟨pO, 0, none⟩) n n) hp
  pok : ∀ j, j < n → Own wr (rb + 1) 78 2 e2 (.slice (hp.getD j dQ).1 (hp.getD j dQ).2.1 (hp.getD j dQ).2.2) (if j < i then spS (r.getD j default).tab else [])
  low : Below rb w2 wr
theorem getD_set_self {α : Type} {l : List α} {i : Nat} {x d : α} (h : i < l.length) : (l.set i x).getD i d = x := by
  rw [List.getD_eq_getElem?_getD, List.getElem?_set_self h]; rfl
theorem getD_set_other {α : Type} {l : List α} {i j : Nat} {x d : α} (h : j ≠ i) : (l.set i x).getD j d = l.getD j d := by
  rw [List.getD_eq_getElem?_getD, List.getD_eq_getElem?_getD, List.getElem?_set_ne (fun e => h e.symm)]
theorem ExI.step {w2 wr w4 : World} {rb : Nat} {sc : Int} {tO tn tc : Nat} {bv : Value} {r : List TrR} {i : Nat} {pO n : Nat} {hs : List TrkH} {ts : List TbH} {hp : List (Option Addr × Nat × Nat)} {sA : Option Addr} {sn sc' : Nat} {pA : Option Addr} {pn pc B1 B2 : Nat}
    (h : ExI w2 wr rb sc (.slice (some ⟨tO, 0, none⟩) tn tc) bv r i pO n hs ts hp) (he : Ext wr w4) (hi : i < tn) (hin : i < n) (hr : i < r.length) (hn : n = r.length) (h1 : Own w4 B1 55 5 eSm (.slice sA sn sc') (exS (r.getD i default).tab)) (h2 : Own w4 B2 78 2 e2 (.slice pA pn pc) (spS (r.getD i default).tab)) (hB1 : rb + 1 ≤ B1) (hB2 : rb + 1 ≤ B2) :
    ExI w2 ((w4.setCell ⟨tO, i * 4 + 2, none⟩ (.slice sA sn sc')).setCell ⟨pO, i, none⟩ (.slice pA pn pc)) rb sc (.slice (some ⟨tO, 0, none⟩) tn tc) bv r (i + 1) pO n (setH hs i sA sn sc') ts (hp.set i (pA, pn, pc)) := by
  have hrd4 := h.rd.ext he
  obtain ⟨cur, hcur⟩ := hrd4.trk.blkOf
  have hpl4 := h.pls.ext he
  obtain ⟨cup, hcup⟩ := hpl4.blkOf
  have hT1 := Tw.set_ w4 tO (i * 4 + 2) (.slice sA sn sc') none
  have hq := hrd4.smp hi (h1.more hB1) hcup (by decide)
  have hpl5 := hpl4.tw hT1 (hpl4.apartB hcur (by decide)) (by simp)
  have hcup5 : Blk (w4.setCell ⟨tO, i * 4 + 2, none⟩ (.slice sA sn sc')) pO 74 cup := Blk.off hcup hcur hT1 (by decide)
  have hT2 := Tw.set_ (w4.setCell ⟨tO, i * 4 + 2, none⟩ (.slice sA sn sc')) pO i (.slice pA pn pc) none
  have hpo := (hpl5.lt pO rfl).1
  have hto := (hrd4.trk.lt tO rfl).1
  have hlp := hpl4.len len_eB1
  refine ⟨?_, ?_, fun j hj => ?_, ?_⟩
  · rw [mixL_succ hr] at hq
    exact hq.tw hT2 hcup5 (by decide) (by decide) (by decide)
  · have := hpl5.setAt len_eB1 i dQ (pA, pn, pc) 0 (.slice pA pn pc) hin (by omega) rfl
    simpa using this
  · by_cases hji : j = i
    · subst hji
      rw [getD_set_self (by omega), if_pos (by omega)]
      have a1 := (h2.more hB2).tw hT1 ((h2.more hB2).apartB hcur (by decide)) (by simp)
      exact a1.tw hT2 (a1.apartB hcup5 (by decide)) (by simp)
    · rw [getD_set_other hji]
      have a0 := (h.pok j hj).ext he
      have a1 := a0.tw hT1 (a0.apartB hcur (by decide)) (by simp)
      have a2 := a1.tw hT2 (a1.apartB hcup5 (by decide)) (by simp)
      by_cases hlt : j < i
      · rw [if_pos hlt] at a2; rw [if_pos (by omega)]; exact a2
      · rw [if_neg hlt] at a2; rw [if_neg (by omega)]; exact a2
  · exact Below.chain h.low (Below.chain (Below.ofExt he (Nat.le_of_lt h.rd.blk.lt)) (Below.chain (Below.ofTw hT1 (Nat.le_of_lt hrd4.blk.lt) (by omega)) (Below.ofTw hT2 (by rw [World.size_setCell]; exact Nat.le_of_lt hrd4.blk.lt) (by omega))))
def RfG (w : World) (r : RfR) (e : Ending) (w' : World) : Prop :=
  Ext w w' ∧ ∃ tA tn tc hs dA dn dc hd, e = .returned (.tuple #[.agg #[.int .i64 r.sc, .slice tA tn tc], .slice dA dn dc, .int .i64 r.at_, .int .i64 r.f]) ∧ TksAt w' tA tn tc hs r.trk ∧ DtsAt w' dA dn dc hd r.dat
theorem DtsAt.nil (w : World) : DtsAt w none 0 0 [] [] := ⟨At.nil _ _ _, rfl, fun _ hi => absurd hi (Nat.not_lt_zero _)⟩
theorem RfG.err {w w' : World} {r : RfR} {a f : Int} (hr : r = rfErr a f) (he : Ext w w') : RfG w r (.returned (.tuple #[.agg #[.int .i64 0, .slice none 0 0], .slice none 0 0, .int .i64 a, .int .i64 f])) w' := by
  subst hr
  exact ⟨he, none, 0, 0, [], none, 0, 0, [], rfl, TksAt.nil _, DtsAt.nil _⟩
end Go.Proofs.Ytlonhkjplijlcaa
