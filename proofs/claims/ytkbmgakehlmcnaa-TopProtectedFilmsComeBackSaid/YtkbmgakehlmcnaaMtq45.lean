/- Several texts in one: Films read, the second half: samples are laid into tracks; plain facts. No condition; Walk: within (program). Conditions as stated; How many kids the nodes of parsed bytes have. No condition; Films read, the bytes of tracks. No condition. -/
import Derived.Test.YtkbmgakehlmcnaaMtq42
import Derived.Test.YtkbmgakehlmcnaaMtq44
import Derived.Test.YtkbmgakehlmcnaaMtq41
import Derived.Test.YtkbmgakehlmcnaaMtq18
import Derived.Test.YtkbmgakehlmcnaaMtq22
namespace Go.Proofs.Ytkbmgakehlmcnaa
open Go.RowKit
theorem flat_setAt {α : Type} {enc : α → List Value} {sz : Nat} (hsz : ∀ x, (enc x).length = sz) : ∀ (xs : List α) (k : Nat) (d x : α) (j : Nat) (u : Value), k < xs.length → j < sz → enc x = (enc (xs.getD k d)).set j u → (xs.flatMap enc).set (k * sz + j) u = (xs.set k x).flatMap enc
  | [], k, _, _, _, _, hk, _, _ => by simp at hk
  | y :: ys, 0, d, x, j, u, _, hj, hu => by
    have hy := hsz y
    rw [List.set_cons_zero, List.flatMap_cons, List.flatMap_cons, hu, Nat.zero_mul, Nat.zero_add, List.set_append_left _ _ (by omega)]
    rfl
  | y :: ys, k + 1, d, x, j, u, hk, hj, hu => by
    have hy := hsz y
    have hk2 : k < ys.length := by simpa using hk
    rw [List.set_cons_succ, List.flatMap_cons, List.flatMap_cons, ← flat_setAt hsz ys k d x j u hk2 hj hu, List.set_append_right _ _ (by rw [hy, Nat.add_mul]; omega), hy]
    congr 2
    rw [Nat.add_mul]; omega
theorem Own.rowN {α : Type} {w : World} {base : Nat} {t : TypeId} {sz : Nat} {enc : α → List Value} {g n c : Nat} {xs : List α} (h : Own w base t sz enc (.slice (some ⟨g, 0, none⟩) n c) xs) :
    ∃ cur, Blk w g t cur ∧ n ≤ c ∧ c ≤ maxLen ∧ cur.size = c * sz ∧ xs.length = n ∧ cur.toList.take (n * sz) = xs.flatMap enc ∧ base ≤ g := by
  obtain ⟨h0, h⟩ := h
  rcases h with ⟨hv, _⟩ | ⟨g', cap, cur, hv, hb, hg, hnc, hcm, hcs, ht⟩
  · cases hv
  · injection hv with h1 h2 h3
    injection h1 with h1
    injection h1 with h1
    subst h1 h3
    exact ⟨cur, hg, by omega, hcm, hcs, h2.symm, by rw [h2]; exact ht, hb⟩
theorem Own.setAt {α : Type} {w : World} {base : Nat} {t : TypeId} {sz : Nat} {enc : α → List Value} {g n c : Nat} {xs : List α} (hsz : ∀ x, (enc x).length = sz) (h : Own w base t sz enc (.slice (some ⟨g, 0, none⟩) n c) xs) (k : Nat) (d x : α) (j : Nat) (u : Value) (hk : k < n) (hj : j < sz) (hu : enc x = (enc (xs.getD k d)).set j u) :
    Own (w.setCell ⟨g, k * sz + j, none⟩ u) base t sz enc (.slice (some ⟨g, 0, none⟩) n c) (xs.set k x) := by
  obtain ⟨cur, hg, hnc, hcm, hcs, hl, ht, hb⟩ := h.rowN
  refine ⟨flat_len hsz _, .inr ⟨g, c, _, by rw [List.length_set, hl], hb, hg.set_ _ u, by rw [List.length_set, hl]; exact hnc, hcm, by simp [hcs], ?_⟩⟩
  rw [List.length_set, hl, Array.toList_setIfInBounds, List.take_set, ht]
  exact flat_setAt hsz xs k d x j u (by omega) hj hu
theorem Own.blkOf {α : Type} {w : World} {base : Nat} {t : TypeId} {sz : Nat} {enc : α → List Value} {g n c : Nat} {xs : List α} (h : Own w base t sz enc (.slice (some ⟨g, 0, none⟩) n c) xs) : ∃ cur, Blk w g t cur := by
  obtain ⟨cur, hg, _⟩ := h.rowN
  exact ⟨cur, hg⟩
def setS (l : List TrkT) (i : Nat) (sm : List Smp) : List TrkT := l.set i ⟨(l.getD i default).name, (l.getD i default).scale, sm, (l.getD i default).ed⟩
def setH (l : List TrkH) (i : Nat) (A : Option Addr) (n c : Nat) : List TrkH := l.set i ⟨(l.getD i default).name, (l.getD i default).scale, A, n, c, (l.getD i default).eA, (l.getD i default).en, (l.getD i default).ec⟩
theorem get_set {α : Type} {l : List α} {i j : Nat} {x y : α} (h : (l.set i x)[j]? = some y) : (j = i ∧ y = x) ∨ (j ≠ i ∧ l[j]? = some y) := by
  rw [List.getElem?_set] at h
  split at h
  · rename_i hij
    split at h
    · injection h with h; exact .inl ⟨hij.symm, h.symm⟩
    · cases h
  · rename_i hij
    exact .inr ⟨fun e => hij e.symm, h⟩
structure RdN (w : World) (rb : Nat) (sc : Int) (tv bv : Value) (a : Int) (hs : List TrkH) (l : List TrkT) (ts : List TbH) (tl : List Tab) (no : Nat) : Prop where
  blk : Blk w rb 75 (frC sc tv bv a)
  trk : Own w (rb + 1) 47 4 eTk tv hs
  tab : Own w (rb + 1) 82 7 eTb bv ts
  len : hs.length = l.length
  lenB : ts.length = tl.length
  els : ∃ G : Nat → Prop, (∀ k, G k → rb < k ∧ k < w.heap.size ∧ tv.ownBlock ≠ some k ∧ bv.ownBlock ≠ some k ∧ k ≠ no) ∧ (∀ (i : Nat) (y : TrkH) (x : TrkT), hs[i]? = some y → l[i]? = some x → TkG w G y x) ∧ (∀ (i : Nat) (y : TbH) (x : Tab), ts[i]? = some y → tl[i]? = some x → TbOk w G y x)
theorem RdN.rd {w : World} {rb : Nat} {sc : Int} {tv bv : Value} {a : Int} {hs : List TrkH} {l : List TrkT} {ts : List TbH} {tl : List Tab} {no : Nat} (h : RdN w rb sc tv bv a hs l ts tl no) : RdI w rb sc tv bv a hs l ts tl := by
  obtain ⟨h1, h2, h3, h4, h5, G, g1, g2, g3⟩ := h
  exact ⟨h1, h2, h3, h4, h5, G, fun k hk => ⟨(g1 k hk).1, (g1 k hk).2.1, (g1 k hk).2.2.1, (g1 k hk).2.2.2.1⟩, g2, g3⟩
theorem RdN.of {w w' : World} {rb : Nat} {sc : Int} {tv bv : Value} {a : Int} {hs : List TrkH} {l : List TrkT} {ts : List TbH} {tl : List Tab} {no : Nat} (h : RdI w rb sc tv bv a hs l ts tl) (he : Ext w w') (hno : w.heap.size ≤ no) : RdN w' rb sc tv bv a hs l ts tl no := by
  obtain ⟨h1, h2, h3, h4, h5, G, g1, g2, g3⟩ := h
  have hk : ∀ k, G k → w'.heap[k]? = w.heap[k]? := fun k hk => he.block k (g1 k hk).2.1
  exact ⟨h1.ext he, h2.ext he, h3.ext he, h4, h5, G, fun k hk => ⟨(g1 k hk).1, Nat.lt_of_lt_of_le (g1 k hk).2.1 he.size, (g1 k hk).2.2.1, (g1 k hk).2.2.2, by have := (g1 k hk).2.1; omega⟩, fun i y x hy hx => (g2 i y x hy hx).good hk (fun _ h => h), fun i y x hy hx => (g3 i y x hy hx).good hk (fun _ h => h)⟩
theorem RdN.ext {w w' : World} {rb : Nat} {sc : Int} {tv bv : Value} {a : Int} {hs : List TrkH} {l : List TrkT} {ts : List TbH} {tl : List Tab} {no : Nat} (h : RdN w rb sc tv bv a hs l ts tl no) (he : Ext w w') : RdN w' rb sc tv bv a hs l ts tl no := by
  obtain ⟨h1, h2, h3, h4, h5, G, g1, g2, g3⟩ := h
  have hk : ∀ k, G k → w'.heap[k]? = w.heap[k]? := fun k hk => he.block k (g1 k hk).2.1
  exact ⟨h1.ext he, h2.ext he, h3.ext he, h4, h5, G, fun k hk => ⟨(g1 k hk).1, Nat.lt_of_lt_of_le (g1 k hk).2.1 he.size, (g1 k hk).2.2⟩, fun i y x hy hx => (g2 i y x hy hx).good hk (fun _ h => h), fun i y x hy hx => (g3 i y x hy hx).good hk (fun _ h => h)⟩
theorem RdN.tw {w w' : World} {rb : Nat} {sc : Int} {tv bv : Value} {a : Int} {hs : List TrkH} {l : List TrkT} {ts : List TbH} {tl : List Tab} {no : Nat} {t : TypeId} {cs : Array Value} (h : RdN w rb sc tv bv a hs l ts tl no) (hT : Tw w w' no none) (hb : Blk w no t cs) (t1 : 75 ≠ t) (t2 : 47 ≠ t) (t3 : 82 ≠ t) : RdN w' rb sc tv bv a hs l ts tl no := by
  obtain ⟨h1, h2, h3, h4, h5, G, g1, g2, g3⟩ := h
  have hk : ∀ k, G k → w'.heap[k]? = w.heap[k]? := fun k hk => hT.block k (g1 k hk).2.1 (g1 k hk).2.2.2.2 (by simp)
  exact ⟨Blk.off h1 hb hT t1, h2.tw hT (h2.apartB hb t2) (by simp), h3.tw hT (h3.apartB hb t3) (by simp), h4, h5, G, fun k hk => ⟨(g1 k hk).1, Nat.lt_of_lt_of_le (g1 k hk).2.1 hT.size, (g1 k hk).2.2⟩, fun i y x hy hx => (g2 i y x hy hx).good hk (fun _ h => h), fun i y x hy hx => (g3 i y x hy hx).good hk (fun _ h => h)⟩
theorem RdN.smp {w : World} {rb : Nat} {sc : Int} {tO tn tc : Nat} {bv : Value} {a : Int} {hs : List TrkH} {l : List TrkT} {ts : List TbH} {tl : List Tab} {no i : Nat} {sA : Option Addr} {sn sc' : Nat} {sm : List Smp} {t : TypeId} {cs : Array Value}
    (h : RdN w rb sc (.slice (some ⟨tO, 0, none⟩) tn tc) bv a hs l ts tl no) (hi : i < tn) (ho : Own w (rb + 1) 44 5 eSm (.slice sA sn sc') sm) (hb : Blk w no t cs) (hst : 44 ≠ t) :
    RdN (w.setCell ⟨tO, i * 4 + 2, none⟩ (.slice sA sn sc')) rb sc (.slice (some ⟨tO, 0, none⟩) tn tc) bv a (setH hs i sA sn sc') (setS l i sm) ts tl no := by
  obtain ⟨h1, h2, h3, h4, h5, G, g1, g2, g3⟩ := h
  obtain ⟨cur, hcur, _, _, _, hln, _, hlo⟩ := h2.rowN
  have hT := Tw.set_ w tO (i * 4 + 2) (.slice sA sn sc') none
  have hk : ∀ k, G k → (w.setCell ⟨tO, i * 4 + 2, none⟩ (.slice sA sn sc')).heap[k]? = w.heap[k]? := fun k hk => hT.block k (g1 k hk).2.1 (fun e => (g1 k hk).2.2.1 (by rw [e]; rfl)) (by simp)
  have hk2 : ∀ k, (Value.slice sA sn sc').ownBlock = some k → (w.setCell ⟨tO, i * 4 + 2, none⟩ (.slice sA sn sc')).heap[k]? = w.heap[k]? := fun k hk => hT.block k (ho.lt k hk).2 (fun e => ho.apartB hcur (by decide) (by rw [hk, e])) (by simp)
  refine ⟨Blk.off h1 hcur hT (by decide), h2.setAt len_eTk i default _ 2 _ hi (by omega) rfl, h3.tw hT (h3.apartB hcur (by decide)) (by simp), by unfold setH setS; rw [List.length_set, List.length_set]; exact h4, h5, fun k => G k ∨ (Value.slice sA sn sc').ownBlock = some k, fun k hk => ?_, fun j y x hy hx => ?_, fun j y x hy hx => (g3 j y x hy hx).good hk (fun _ h => .inl h)⟩
  · rcases hk with hk | hk
    · exact ⟨(g1 k hk).1, Nat.lt_of_lt_of_le (g1 k hk).2.1 hT.size, (g1 k hk).2.2⟩
    · exact ⟨by have := (ho.lt k hk).1; omega, Nat.lt_of_lt_of_le (ho.lt k hk).2 hT.size, fun e => ho.apart h2 (by decide) k hk e, fun e => ho.apart h3 (by decide) k hk e, fun e => ho.apartB hb hst (by rw [hk, e])⟩
  · unfold setH at hy
    unfold setS at hx
    rcases get_set hy with ⟨rfl, rfl⟩ | ⟨hj, hy1⟩
    · rcases get_set hx with ⟨_, rfl⟩ | ⟨hj, _⟩
      · have e1 : hs[j]? = some (hs.getD j default) := by rw [List.getD_eq_getElem?_getD, List.getElem?_eq_getElem (by omega)]; rfl
        have e2 : l[j]? = some (l.getD j default) := by rw [List.getD_eq_getElem?_getD, List.getElem?_eq_getElem (by omega)]; rfl
        have q := (g2 j _ _ e1 e2).good hk (fun _ h => h)
        exact ⟨⟨q.ok.1, q.ok.2.1, (ho.atS len_eSm).goodH (G := fun k => (Value.slice sA sn sc').ownBlock = some k) (fun _ a ha => by subst ha; rfl) hk2, q.ok.2.2.2⟩, fun _ a ha => .inr (by subst ha; rfl), q.l2.mono (fun _ h => .inl h)⟩
      · exact absurd rfl hj
    · rcases get_set hx with ⟨e, _⟩ | ⟨_, hx1⟩
      · exact absurd e hj
      · exact (g2 j y x hy1 hx1).good hk (fun _ h => .inl h)
def mixL (r : List TrR) (i : Nat) : List TrkT := (r.take i).map trkOf ++ (r.drop i).map trk0
theorem mixL_zero (r : List TrR) : mixL r 0 = r.map trk0 := by simp [mixL]
theorem mixL_all (r : List TrR) : mixL r r.length = r.map trkOf := by simp [mixL]
theorem mixL_succ {r : List TrR} {i : Nat} (hi : i < r.length) : setS (mixL r i) i (exS (r.getD i default).tab) = mixL r (i + 1) := by
  have e : r.drop i = r.getD i default :: r.drop (i + 1) := by
    rw [List.getD_eq_getElem?_getD, List.getElem?_eq_getElem hi]
    exact List.drop_eq_getElem_cons hi
  have e2 : r.take (i + 1) = r.take i ++ [r.getD i default] := by
    rw [List.getD_eq_getElem?_getD, List.getElem?_eq_getElem hi]
    exact List.take_succ_eq_append_getElem hi
  have hl : ((r.take i).map trkOf).length = i := by rw [List.length_map, List.length_take]; omega
  have hg : (mixL r i).getD i default = trk0 (r.getD i default) := by
    unfold mixL
    rw [e, List.map_cons, List.getD_eq_getElem?_getD, List.getElem?_append_right (by omega), hl, Nat.sub_self]; rfl
  unfold setS
  rw [hg]
  unfold mixL
  rw [e, e2, List.map_append, List.map_cons, List.set_append_right _ _ (by omega), hl, Nat.sub_self, List.set_cons_zero, List.append_assoc]
  rfl
structure TbFew (t : Tab) : Prop where
  s : t.steps.length ≤ 1000000
  h : t.shifts.length ≤ 1000000
  z : t.sizes.length ≤ 1000000
  k : t.keys.length ≤ 1000000
  c : t.chunks.length ≤ 1000000
  p : t.places.length ≤ 1000000
theorem prL_len (l : List Int) : (prL l).length = l.length / 2 := prK_len _ _
theorem rtV_fw {b : List UInt8} (h : b.length ≤ 1000000) : TbFew (rtV b) := by
  unfold rtV
  split
  · obtain ⟨h1, h2, h3, h5, h6, h7⟩ := r_few b
    exact ⟨by show (prL _).length ≤ _; rw [prL_len]; omega, by show (prL _).length ≤ _; rw [prL_len]; omega, by show (r3F b).1.length ≤ _; omega, by show (r5F b).1.length ≤ _; omega, by show (prL _).length ≤ _; rw [prL_len]; omega, by show (r7F b).1.length ≤ _; omega⟩
  · exact ⟨Nat.zero_le _, Nat.zero_le _, Nat.zero_le _, Nat.zero_le _, Nat.zero_le _, Nat.zero_le _⟩
structure OkR (b : List UInt8) (r : List TrR) : Prop where
  nm : ∀ t ∈ r, t.name.length ≤ b.length
  tab : ∀ t ∈ r, TbFew t.tab
theorem trkR_okR {b : List UInt8} {n : NodeT} {t : TrR} (hb : b.length ≤ 1000000) (h : trkR b n = .ok t) : t.name.length ≤ b.length ∧ TbFew t.tab := by
  unfold trkR at h
  cases h0 : kidR n.kids 0 kName n.en with
  | bad a => rw [h0] at h; cases h
  | ok x0 =>
    cases h1 : kidR n.kids 1 kRate n.en with
    | bad a => rw [h0, h1] at h; cases h
    | ok x1 =>
      rw [h0, h1] at h
      simp only [Rdr.then] at h
      split at h
      · cases h
      · cases h2 : kidR n.kids 2 kEdit n.en with
        | bad a => rw [h2] at h; cases h
        | ok x2 =>
          rw [h2] at h
          simp only at h
          split at h
          · cases h
          · cases h3 : kidR n.kids 3 kTabl n.en with
            | bad a => rw [h3] at h; cases h
            | ok x3 =>
              rw [h3] at h
              simp only at h
              split at h
              · cases h
              · split at h
                · cases h
                · cases h
                  exact ⟨ctB_le b x0, rtV_fw (Nat.le_trans (ctB_le b x3) hb)⟩
theorem trksK_okR {b : List UInt8} {l : List NodeT} (hb : b.length ≤ 1000000) : ∀ {k : Nat} {r : List TrR}, trksK b l k = .ok r → OkR b r ∧ r.length ≤ k
  | 0, r, h => by cases h; exact ⟨⟨fun t ht => (by cases ht), fun t ht => by cases ht⟩, Nat.le_refl _⟩
  | k + 1, r, h => by
    rw [trksK] at h
    cases h1 : trksK b l k with
    | bad a => rw [h1] at h; cases h
    | ok r1 =>
      have ih := trksK_okR hb h1
      rw [h1] at h
      simp only [Rdr.then] at h
      split at h
      · cases h; exact ⟨ih.1, by omega⟩
      · split at h
        · rename_i x _ _
          cases ht : trkR b x with
          | bad a => rw [ht] at h; cases h
          | ok t =>
            rw [ht] at h
            cases h
            have hq := trkR_okR hb ht
            refine ⟨⟨fun t' ht' => ?_, fun t' ht' => ?_⟩, by simp; omega⟩
            · rcases List.mem_append.1 ht' with h | h
              · exact ih.1.nm _ h
              · rw [List.mem_singleton] at h; subst h; exact hq.1
            · rcases List.mem_append.1 ht' with h | h
              · exact ih.1.tab _ h
              · rw [List.mem_singleton] at h; subst h; exact hq.2
        · cases h
theorem filR_okR {b : List UInt8} {n : NodeT} {g : Int × List TrR} (hb : b.length ≤ 1000000) (h : filR b n = .ok g) : OkR b g.2 ∧ g.2.length ≤ n.kids.length := by
  unfold filR at h
  cases h0 : kidR n.kids 0 kHead b.length with
  | bad a => rw [h0] at h; cases h
  | ok x0 =>
    rw [h0] at h
    simp only [Rdr.then] at h
    split at h
    · cases h
    · cases h1 : trksK b n.kids (n.kids.length - 1) with
      | bad a => rw [h1] at h; cases h
      | ok r =>
        rw [h1] at h
        cases h
        have := trksK_okR hb h1
        exact ⟨this.1, by have := this.2; show r.length ≤ _; omega⟩
theorem topK_okR {b : List UInt8} {l : List NodeT} (hb : b.length ≤ 1000000) (hl : ∀ x ∈ l, x.kids.length ≤ 1000000) : ∀ {k : Nat} {g : Int × List TrR}, topK b l k = .ok (some g) → OkR b g.2 ∧ g.2.length ≤ 1000000
  | 0, g, h => by cases h
  | k + 1, g, h => by
    rw [topK] at h
    cases h1 : topK b l k with
    | bad a => rw [h1] at h; cases h
    | ok f =>
      rw [h1] at h
      simp only [Rdr.then] at h
      split at h
      · cases h; exact topK_okR hb hl h1
      · rename_i x hx
        split at h
        · cases f with
          | some g2 => cases h
          | none =>
            simp only at h
            cases h2 : filR b x with
            | bad a => rw [h2] at h; cases h
            | ok g2 =>
              rw [h2] at h
              cases h
              have := filR_okR hb h2
              have hm : x ∈ l := List.mem_of_getElem? hx
              exact ⟨this.1, Nat.le_trans this.2 (hl x hm)⟩
        · cases h; exact topK_okR hb hl h1
theorem topR_okR {b : List UInt8} {l : List NodeT} {g : Int × List TrR} (hb : b.length ≤ 1000000) (hl : ∀ x ∈ l, x.kids.length ≤ 1000000) (h : topR b l = .ok g) : OkR b g.2 ∧ g.2.length ≤ 1000000 := by
  unfold topR at h
  cases h1 : topK b l l.length with
  | bad a => rw [h1] at h; cases h
  | ok f =>
    rw [h1] at h
    cases f with
    | none => cases h
    | some g2 => cases h; exact topK_okR hb hl h1
def S11 (rb gb : Nat) (tv : Value) (y : TbH) (W : World) : Prop :=
  W.cell? ⟨rb, 1, none⟩ = some tv ∧ W.cell? ⟨gb, 0, none⟩ = some (.int .i64 y.start) ∧ W.cell? ⟨gb, 1, none⟩ = some (.slice y.sA y.sn y.sc) ∧ W.cell? ⟨gb, 2, none⟩ = some (.slice y.hA y.hn y.hc) ∧ W.cell? ⟨gb, 3, none⟩ = some (.slice y.zA y.zn y.zc) ∧ W.cell? ⟨gb, 4, none⟩ = some (.slice y.kA y.kn y.kc) ∧ W.cell? ⟨gb, 5, none⟩ = some (.slice y.cA y.cn y.cc) ∧ W.cell? ⟨gb, 6, none⟩ = some (.slice y.pA y.pn y.pc)
theorem S11.of {W : World} {rb gb : Nat} {sc : Int} {tv bv : Value} {a : Int} {y : TbH} (h : Blk W rb 75 (frC sc tv bv a)) (hg : Blk W gb 82 #[.int .i64 y.start, .slice y.sA y.sn y.sc, .slice y.hA y.hn y.hc, .slice y.zA y.zn y.zc, .slice y.kA y.kn y.kc, .slice y.cA y.cn y.cc, .slice y.pA y.pn y.pc]) : S11 rb gb tv y W :=
  ⟨h.cell 1, hg.cell 0, hg.cell 1, hg.cell 2, hg.cell 3, hg.cell 4, hg.cell 5, hg.cell 6⟩
abbrev dQ : Option Addr × Nat × Nat := (none, 0, 0)
structure ExI (w2 wr : World) (rb : Nat) (sc : Int) (tv bv : Value) (r : List TrR) (i : Nat) (pO n : Nat) (hs : List TrkH) (ts : List TbH) (hp : List (Option Addr × Nat × Nat)) : Prop where
  rd : RdN wr rb sc tv bv 0 hs (mixL r i) ts (r.map TrR.tab) pO
  pls : Own wr (rb + 1) 83 1 eB1 (.slice (some ⟨pO, 0, none⟩) n n) hp
  pok : ∀ j, j < n → Own wr (rb + 1) 87 2 e2 (.slice (hp.getD j dQ).1 (hp.getD j dQ).2.1 (hp.getD j dQ).2.2) (if j < i then spS (r.getD j default).tab else [])
  low : Below rb w2 wr
theorem getD_set_self {α : Type} {l : List α} {i : Nat} {x d : α} (h : i < l.length) : (l.set i x).getD i d = x := by
  rw [List.getD_eq_getElem?_getD, List.getElem?_set_self h]; rfl
theorem getD_set_other {α : Type} {l : List α} {i j : Nat} {x d : α} (h : j ≠ i) : (l.set i x).getD j d = l.getD j d := by
  rw [List.getD_eq_getElem?_getD, List.getD_eq_getElem?_getD, List.getElem?_set_ne (fun e => h e.symm)]
theorem ExI.step {w2 wr w4 : World} {rb : Nat} {sc : Int} {tO tn tc : Nat} {bv : Value} {r : List TrR} {i : Nat} {pO n : Nat} {hs : List TrkH} {ts : List TbH} {hp : List (Option Addr × Nat × Nat)} {sA : Option Addr} {sn sc' : Nat} {pA : Option Addr} {pn pc B1 B2 : Nat}
    (h : ExI w2 wr rb sc (.slice (some ⟨tO, 0, none⟩) tn tc) bv r i pO n hs ts hp) (he : Ext wr w4) (hi : i < tn) (hin : i < n) (hr : i < r.length) (hn : n = r.length) (h1 : Own w4 B1 44 5 eSm (.slice sA sn sc') (exS (r.getD i default).tab)) (h2 : Own w4 B2 87 2 e2 (.slice pA pn pc) (spS (r.getD i default).tab)) (hB1 : rb + 1 ≤ B1) (hB2 : rb + 1 ≤ B2) :
    ExI w2 ((w4.setCell ⟨tO, i * 4 + 2, none⟩ (.slice sA sn sc')).setCell ⟨pO, i, none⟩ (.slice pA pn pc)) rb sc (.slice (some ⟨tO, 0, none⟩) tn tc) bv r (i + 1) pO n (setH hs i sA sn sc') ts (hp.set i (pA, pn, pc)) := by
  have hrd4 := h.rd.ext he
  obtain ⟨cur, hcur⟩ := hrd4.trk.blkOf
  have hpl4 := h.pls.ext he
  obtain ⟨cup, hcup⟩ := hpl4.blkOf
  have hT1 := Tw.set_ w4 tO (i * 4 + 2) (.slice sA sn sc') none
  have hq := hrd4.smp hi (h1.more hB1) hcup (by decide)
  have hpl5 := hpl4.tw hT1 (hpl4.apartB hcur (by decide)) (by simp)
  have hcup5 : Blk (w4.setCell ⟨tO, i * 4 + 2, none⟩ (.slice sA sn sc')) pO 83 cup := Blk.off hcup hcur hT1 (by decide)
  have hT2 := Tw.set_ (w4.setCell ⟨tO, i * 4 + 2, none⟩ (.slice sA sn sc')) pO i (.slice pA pn pc) none
  have hpo := (hpl5.lt pO rfl).1
  have hto := (hrd4.trk.lt tO rfl).1
  have hlp := hpl4.len len_eB1
  refine ⟨?_, ?_, fun j hj => ?_, ?_⟩
  · rw [mixL_succ hr] at hq
    exact hq.tw hT2 hcup5 (by decide) (by decide) (by decide)
  · have := hpl5.setAt len_eB1 i dQ (pA, pn, pc) 0 (.slice pA pn pc) hin (by omega) rfl
    simpa using this
  · by_cases hji : j = i
    · subst hji
      rw [getD_set_self (by omega), if_pos (by omega)]
      have a1 := (h2.more hB2).tw hT1 ((h2.more hB2).apartB hcur (by decide)) (by simp)
      exact a1.tw hT2 (a1.apartB hcup5 (by decide)) (by simp)
    · rw [getD_set_other hji]
      have a0 := (h.pok j hj).ext he
      have a1 := a0.tw hT1 (a0.apartB hcur (by decide)) (by simp)
      have a2 := a1.tw hT2 (a1.apartB hcup5 (by decide)) (by simp)
      by_cases hlt : j < i
      · rw [if_pos hlt] at a2; rw [if_pos (by omega)]; exact a2
      · rw [if_neg hlt] at a2; rw [if_neg (by omega)]; exact a2
  · exact Below.chain h.low (Below.chain (Below.ofExt he (Nat.le_of_lt h.rd.blk.lt)) (Below.chain (Below.ofTw hT1 (Nat.le_of_lt hrd4.blk.lt) (by omega)) (Below.ofTw hT2 (by rw [World.size_setCell]; exact Nat.le_of_lt hrd4.blk.lt) (by omega))))
def RfG (w : World) (r : RfR) (e : Ending) (w' : World) : Prop :=
  Ext w w' ∧ ∃ tA tn tc hs dA dn dc hd, e = .returned (.tuple #[.agg #[.int .i64 r.sc, .slice tA tn tc], .slice dA dn dc, .int .i64 r.at_, .int .i64 r.f]) ∧ TksAt w' tA tn tc hs r.trk ∧ DtsAt w' dA dn dc hd r.dat
theorem DtsAt.nil (w : World) : DtsAt w none 0 0 [] [] := ⟨At.nil _ _ _, rfl, fun _ hi => absurd hi (Nat.not_lt_zero _)⟩
theorem RfG.err {w w' : World} {r : RfR} {a f : Int} (hr : r = rfErr a f) (he : Ext w w') : RfG w r (.returned (.tuple #[.agg #[.int .i64 0, .slice none 0 0], .slice none 0 0, .int .i64 a, .int .i64 f])) w' := by
  subst hr
  exact ⟨he, none, 0, 0, [], none, 0, 0, [], rfl, TksAt.nil _, DtsAt.nil _⟩
def inB (x : NodeT) (s : Int × Int) : Bool := decide (x.kind = kData ∧ (x.dat : Int) ≤ s.1 ∧ s.1 + s.2 ≤ (x.en : Int))
theorem inD_yes {l : List NodeT} {s : Int × Int} {k : Nat} (hk : k < l.length) (h : inB (l.getD k dN) s = true) : okSp l s = true := by
  have e2 : l.getD k dN ∈ l := by rw [List.getD_eq_getElem?_getD, List.getElem?_eq_getElem hk]; exact List.getElem_mem hk
  unfold okSp inD
  rw [List.any_eq_true.2 ⟨_, e2, h⟩]; rfl
theorem inD_no {l : List NodeT} {s : Int × Int} (h : ∀ j, j < l.length → inB (l.getD j dN) s = false) : okSp l s = decide (s.2 = 0) := by
  have : inD l s = false := by
    unfold inD
    rw [List.any_eq_false]
    intro x hx
    obtain ⟨j, hj, rfl⟩ := List.getElem_of_mem hx
    have := h j hj
    rw [List.getD_eq_getElem?_getD, List.getElem?_eq_getElem hj] at this
    simp only [Option.getD_some] at this
    unfold inB at this
    rw [this]; simp
  unfold okSp; rw [this]; rfl
set_option linter.unusedVariables false in
set_option linter.unusedSimpArgs false in
set_option maxRecDepth 100000 in
set_option maxHeartbeats 8000000 in
theorem within_any {w : World} {B : Nat} {b : List UInt8} {A : Option Addr} {n c : Nat} {l : List NodeT} {p z : Int} (h : NdsAt w b (fun k => k < B) A n c l) (hp : 0 ≤ p ∧ p ≤ 1000000000) (hz : 0 ≤ z ∧ z ≤ 100000) :
    Calls Try.prog 29 #[.slice A n c, .agg #[.int .i64 p, .int .i64 z]] w fun e w' => e = .returned (.bool (okSp l (p, z))) ∧ Ext w w' := by
  obtain ⟨ns, hns⟩ := nds_open h
  have HN0 := hide hns
  have hln := hns.len
  have hbd := hns.at_.bound
  have HYES := hide (fun (k : Nat) (hk : k < l.length) (h : inB (l.getD k dN) (p, z) = true) => inD_yes hk h)
  have HNO := hide (fun (h : ∀ j, j < l.length → inB (l.getD j dN) (p, z) = false) => inD_no h)
  have e8 : IntKind.i64.wrap (p + z) = p + z := by rw [IntKind.wrap_i64]; omega
  have E0 := hide (Ext.alloc w (.cells #[.int .i64 p, .int .i64 z] 87))
  have S0 := hide (Blk.new w 87 #[.int .i64 p, .int .i64 z])
  clear h hns
  go_enter Try.func29, Try.ntmps29
  go_upto_region 1 with (fail)
  refine gen_wpC fun w0 h0 => ?_
  rw [← h0] at E0 S0
  obtain ⟨sb, hsb⟩ : ∃ sb, sb = w.heap.size := ⟨_, rfl⟩
  rw [← hsb] at S0 ⊢
  clear h0 hsb
  go_wp2_with fail
  go_loopw [9] (fun ri wr => ∃ k : Nat, k ≤ n ∧ ri = .int .i64 (k : Int) ∧ Hid (∀ j, j < k → inB (l.getD j dN) (p, z) = false) ∧ Hid (Ext w0 wr)) (fun ri _ => n - (intOf ri).toNat)
  case atStart => exact ⟨0, by omega, rfl, hide (fun j hj => by omega), hide (Ext.refl _)⟩
  case round =>
    obtain ⟨k, hk, rfl, HA, HX⟩ := hrel
    by_cases hlt : k < n
    · have hat := HN0.out.at_.ext (Ext.trans E0.out HX.out)
      obtain ⟨bA, oA, rfl, _⟩ := hat.addr (by omega)
      obtain ⟨x, hx⟩ : ∃ x, l.getD k dN = x := ⟨_, rfl⟩
      obtain ⟨y, hy⟩ : ∃ y, ns.getD k default = y := ⟨_, rfl⟩
      have hd := HN0.out.hd k hlt
      rw [hx, hy] at hd
      have HXX := hide hx
      obtain ⟨⟨yk, yf, dA, dn, dc, kA, kn, kc⟩, yg, yd, ye, nA, nn, nc⟩ := y
      have a0 : wr.cell? ⟨bA, oA + k * 8, none⟩ = some (.string ⟨yk.toArray⟩) := hat.cellK hlt default 0 _ (by rw [hy]; rfl)
      have a1 : wr.cell? ⟨bA, oA + k * 8 + 1, none⟩ = some (.int .i64 yf) := hat.cellK hlt default 1 _ (by rw [hy]; rfl)
      have a2 : wr.cell? ⟨bA, oA + k * 8 + 2, none⟩ = some (.slice dA dn dc) := hat.cellK hlt default 2 _ (by rw [hy]; rfl)
      have a3 : wr.cell? ⟨bA, oA + k * 8 + 3, none⟩ = some (.slice kA kn kc) := hat.cellK hlt default 3 _ (by rw [hy]; rfl)
      have a4 : wr.cell? ⟨bA, oA + k * 8 + 4, none⟩ = some (.int .i64 (yg : Int)) := hat.cellK hlt default 4 _ (by rw [hy]; rfl)
      have a5 : wr.cell? ⟨bA, oA + k * 8 + 5, none⟩ = some (.int .i64 (yd : Int)) := hat.cellK hlt default 5 _ (by rw [hy]; rfl)
      have a6 : wr.cell? ⟨bA, oA + k * 8 + 6, none⟩ = some (.int .i64 (ye : Int)) := hat.cellK hlt default 6 _ (by rw [hy]; rfl)
      have a7 : wr.cell? ⟨bA, oA + k * 8 + 7, none⟩ = some (.slice nA nn nc) := hat.cellK hlt default 7 _ (by rw [hy]; rfl)
      have HB : Hid (inB (l.getD k dN) (p, z) = decide (yk = kData ∧ (yd : Int) ≤ p ∧ p + z ≤ (ye : Int))) := hide (by
        rw [hx]; unfold inB; rw [← hd.kind, ← hd.dat, ← hd.en])
      have HY := hide (HYES.out k (by omega))
      have HS : Hid (inB (l.getD k dN) (p, z) = false → ∀ j, j < k + 1 → inB (l.getD j dN) (p, z) = false) := hide (fun h0 j hj => by
        rcases Nat.lt_succ_iff_lt_or_eq.1 hj with h | h
        · exact HA.out j h
        · rw [h]; exact h0)
      have i1 : (k : Int) < (n : Int) := by omega
      have i0 : (0 : Int) ≤ (k : Int) := by omega
      clear hat hd hx hy
      go_upto_region 4 with (fail)
      refine gen_wpC fun w2 h2 => ?_
      obtain ⟨nb, hnb⟩ : ∃ nb, nb = wr.heap.size := ⟨_, rfl⟩
      rw [← hnb]
      have E2 : Hid (Ext w0 w2) := hide (by rw [h2]; exact Ext.trans HX.out (Ext.alloc _ _))
      have X2 : Hid (Blk w2 nb 122 #[.string ⟨yk.toArray⟩, .int .i64 yf, .slice dA dn dc, .slice kA kn kc, .int .i64 (yg : Int), .int .i64 (yd : Int), .int .i64 (ye : Int), .slice nA nn nc]) := hide (by rw [h2, hnb]; exact Blk.new _ _ _)
      have S2 := hide (S0.out.ext E2.out)
      have x0 : w2.cell? ⟨nb, 0, none⟩ = some (.string ⟨yk.toArray⟩) := X2.out.cell 0
      have x5 : w2.cell? ⟨nb, 5, none⟩ = some (.int .i64 (yd : Int)) := X2.out.cell 5
      have x6 : w2.cell? ⟨nb, 6, none⟩ = some (.int .i64 (ye : Int)) := X2.out.cell 6
      have z0 : w2.cell? ⟨sb, 0, none⟩ = some (.int .i64 p) := S2.out.cell 0
      have z1 : w2.cell? ⟨sb, 1, none⟩ = some (.int .i64 z) := S2.out.cell 1
      clear h2 hnb a0 a1 a2 a3 a4 a5 a6 a7
      by_cases hkf : yk = kData
      · subst hkf
        by_cases h1 : (yd : Int) ≤ p
        · by_cases h3 : p + z ≤ (ye : Int)
          · have HE := hide (HY.out (by rw [HB.out]; simp [h1, h3]))
            go_wp2_with fail
            go_ret
            exact ⟨by rw [HE.out] <;> rfl, Ext.trans E0.out E2.out⟩
          · have HE := hide (HS.out (by rw [HB.out]; simp [h3]))
            go_wp2_with fail
            go_roundw
            case measure => simp [intOf]; omega
            exact ⟨k + 1, by omega, by go_num, HE, E2⟩
        · have HE := hide (HS.out (by rw [HB.out]; simp [h1]))
          go_wp2_with fail
          go_roundw
          case measure => simp [intOf]; omega
          exact ⟨k + 1, by omega, by go_num, HE, E2⟩
      · have hne : (yk == [100, 97, 116, 97]) = false := by simpa using (show ¬ yk = [100, 97, 116, 97] from hkf)
        have HE := hide (HS.out (by rw [HB.out]; simp [hkf]))
        go_wp2_with fail
        go_roundw
        case measure => simp [intOf]; omega
        exact ⟨k + 1, by omega, by go_num, HE, E2⟩
    · obtain rfl : k = n := by omega
      have HE := hide (HNO.out (fun j hj => HA.out j (by omega)))
      have S2 := hide (S0.out.ext HX.out)
      have z1 : wr.cell? ⟨sb, 1, none⟩ = some (.int .i64 z) := S2.out.cell 1
      clear hlt hk
      by_cases hz0 : z = 0
      · go_wp2_with fail
        go_ret
        exact ⟨by rw [HE.out]; simp [hz0], Ext.trans E0.out HX.out⟩
      · go_wp2_with fail
        go_ret
        exact ⟨by rw [HE.out]; simp [hz0], Ext.trans E0.out HX.out⟩
end Go.Proofs.Ytkbmgakehlmcnaa
namespace Go.Proofs.Ytkbmgakehlmcnaa
theorem parP_kids (b : List UInt8) : ∀ (m f t depth cnt : Nat) (l : List NodeT) (c : Nat), parP b m f t depth cnt = .ok l c → cnt ≤ 2000 → ∀ x ∈ l, x.kids.length ≤ t - f
  | 0, f, t, depth, cnt, l, c, h, hc => by
    unfold parP at h; cases h; intro x hx; cases hx
  | m + 1, f, t, depth, cnt, l, c, h, hc => by
    unfold parP at h
    split at h
    · cases h; intro x hx; cases hx
    · split at h
      · cases h
      · cases hh : headP b f t with
        | none => rw [hh] at h; cases h
        | some r =>
          obtain ⟨k, fo, d, e⟩ := r
          rw [hh] at h
          simp only at h
          obtain ⟨h1, h2, h3, _⟩ := headP_some hh
          have key : ∀ (c1 : Nat) (y : NodeT), c1 ≤ 2000 → y.kids.length ≤ t - f → (parP b m e t depth c1).pre [y] = .ok l c → ∀ x ∈ l, x.kids.length ≤ t - f := by
            intro c1 y hc1 hy hp
            cases hq : parP b m e t depth c1 with
            | err a g => rw [hq] at hp; cases hp
            | ok r2 c2 =>
              rw [hq] at hp
              have ih := parP_kids b m e t depth c1 r2 c2 hq hc1
              simp only [ParR.pre, ParR.ok.injEq] at hp
              obtain ⟨h4, h5⟩ := hp
              subst h4 h5
              intro x hx
              rcases List.mem_cons.1 (by simpa using hx : x ∈ y :: r2) with rfl | hx
              · exact hy
              · have := ih x hx; omega
          split at h
          · cases hq : parP b m d e (depth + 1) (cnt + 1) with
            | err a g => rw [hq] at h; cases h
            | ok kids c1 =>
              rw [hq] at h
              have hcn := parP_count b m d e (depth + 1) (cnt + 1) kids c1 hq (by omega)
              exact key c1 _ hcn.1 (by show kids.length ≤ t - f; omega) h
          · exact key (cnt + 1) _ (by omega) (Nat.zero_le _) h
theorem parP_en (b : List UInt8) : ∀ (m f t depth cnt : Nat) (l : List NodeT) (c : Nat), parP b m f t depth cnt = .ok l c → cnt ≤ 2000 → ∀ x ∈ l, x.en ≤ t
  | 0, f, t, depth, cnt, l, c, h, hc => by
    unfold parP at h; cases h; intro x hx; cases hx
  | m + 1, f, t, depth, cnt, l, c, h, hc => by
    unfold parP at h
    split at h
    · cases h; intro x hx; cases hx
    · split at h
      · cases h
      · cases hh : headP b f t with
        | none => rw [hh] at h; cases h
        | some r =>
          obtain ⟨k, fo, d, e⟩ := r
          rw [hh] at h
          simp only at h
          obtain ⟨h1, h2, h3, _⟩ := headP_some hh
          have key : ∀ (c1 : Nat) (y : NodeT), c1 ≤ 2000 → y.en ≤ t → (parP b m e t depth c1).pre [y] = .ok l c → ∀ x ∈ l, x.en ≤ t := by
            intro c1 y hc1 hy hp
            cases hq : parP b m e t depth c1 with
            | err a g => rw [hq] at hp; cases hp
            | ok r2 c2 =>
              rw [hq] at hp
              have ih := parP_en b m e t depth c1 r2 c2 hq hc1
              simp only [ParR.pre, ParR.ok.injEq] at hp
              obtain ⟨h4, h5⟩ := hp
              subst h4 h5
              intro x hx
              rcases List.mem_cons.1 (by simpa using hx : x ∈ y :: r2) with rfl | hx
              · exact hy
              · exact ih x hx
          split at h
          · cases hq : parP b m d e (depth + 1) (cnt + 1) with
            | err a g => rw [hq] at h; cases h
            | ok kids c1 =>
              rw [hq] at h
              have hcn := parP_count b m d e (depth + 1) (cnt + 1) kids c1 hq (by omega)
              exact key c1 _ hcn.1 (by show e ≤ t; exact h3) h
          · exact key (cnt + 1) _ (by omega) (by show e ≤ t; exact h3) h
end Go.Proofs.Ytkbmgakehlmcnaa
namespace Go.Proofs.Ytkbmgakehlmcnaa
open Go.RowKit
structure DaI (w5 wr : World) (dO m : Nat) (hd : List (Option Addr × Nat × Nat)) (F : Nat → List UInt8) : Prop where
  own : Own wr w5.heap.size 28 1 eB1 (.slice (some ⟨dO, 0, none⟩) m m) hd
  rows : ∀ j, j < m → Own wr w5.heap.size 5 1 e8 (.slice (hd.getD j dQ).1 (hd.getD j dQ).2.1 (hd.getD j dQ).2.2) (F j)
  apart : ∀ j k, j < m → k < m → j ≠ k → ∀ g, (Value.slice (hd.getD j dQ).1 (hd.getD j dQ).2.1 (hd.getD j dQ).2.2).ownBlock = some g → (Value.slice (hd.getD k dQ).1 (hd.getD k dQ).2.1 (hd.getD k dQ).2.2).ownBlock ≠ some g
  ext : Ext w5 wr
theorem DaI.extW {w5 wr w' : World} {dO m : Nat} {hd : List (Option Addr × Nat × Nat)} {F : Nat → List UInt8} (h : DaI w5 wr dO m hd F) (he : Ext wr w') : DaI w5 w' dO m hd F :=
  ⟨h.own.ext he, fun j hj => (h.rows j hj).ext he, h.apart, Ext.trans h.ext he⟩
theorem DaI.fn {w5 wr : World} {dO m : Nat} {hd : List (Option Addr × Nat × Nat)} {F F' : Nat → List UInt8} (h : DaI w5 wr dO m hd F) (hF : ∀ j, j < m → F' j = F j) : DaI w5 wr dO m hd F' :=
  ⟨h.own, fun j hj => by rw [hF j hj]; exact h.rows j hj, h.apart, h.ext⟩
theorem DaI.start {w5 : World} {m : Nat} (hm : m ≤ maxLen) : DaI w5 (w5.alloc (.cells (madeCells #[Value.slice none 0 0] m) 28)) w5.heap.size m (List.replicate m dQ) (fun _ => []) := by
  have h9 := made_own (enc := eB1) (x := dQ) (t := 28) (z := #[Value.slice none 0 0]) (sz := 1) rfl rfl (by omega) w5 w5.heap.size m (Nat.le_refl _) hm
  rw [Nat.mul_one] at h9
  have e5 : ∀ j, j < m → (List.replicate m dQ).getD j dQ = dQ := fun j hj => by rw [List.getD_eq_getElem?_getD, List.getElem?_replicate, if_pos hj]; rfl
  refine ⟨h9, fun j hj => ?_, fun j k hj hk hne g hg => ?_, Ext.alloc _ _⟩
  · rw [e5 j hj]; exact Own.nil _ _ _ _ _
  · rw [e5 j hj] at hg; cases hg
theorem DaI.app {w5 wr w6 w7 : World} {dO m i : Nat} {hd : List (Option Addr × Nat × Nat)} {F : Nat → List UInt8} {vA : Option Addr} {vn vc : Nat} {l : List UInt8} (h : DaI w5 wr dO m hd F) (he : Ext wr w6) (hi : i < m) (ho : Own w7 w5.heap.size 5 1 e8 (.slice vA vn vc) (F i ++ l))
    (hg : w6.grownBy w7 (Value.slice (hd.getD i dQ).1 (hd.getD i dQ).2.1 (hd.getD i dQ).2.2).ownBlock) (hr : (Value.slice vA vn vc).ownBlock = (Value.slice (hd.getD i dQ).1 (hd.getD i dQ).2.1 (hd.getD i dQ).2.2).ownBlock ∨ (Value.slice vA vn vc).ownBlock = some w6.heap.size) :
    DaI w5 (w7.setCell ⟨dO, i, none⟩ (.slice vA vn vc)) dO m (hd.set i (vA, vn, vc)) (fun j => if j = i then F i ++ l else F j) := by
  have hown6 := h.own.ext he
  have hl : hd.length = m := hown6.len len_eB1
  obtain ⟨c6, hc6⟩ := hown6.blkOf
  have hri := (h.rows i hi).ext he
  have hne : (Value.slice (hd.getD i dQ).1 (hd.getD i dQ).2.1 (hd.getD i dQ).2.2).ownBlock ≠ some dO := hri.apartB hc6 (by decide)
  have hc7 : Blk w7 dO 28 c6 := (hg.block dO hc6.lt (fun e => hne e.symm)).trans hc6
  have hown7 : Own w7 w5.heap.size 28 1 eB1 (.slice (some ⟨dO, 0, none⟩) m m) hd := hown6.kept hg (.inr (fun e => hne e.symm))
  have hT := Tw.set_ w7 dO i (.slice vA vn vc) none
  have hlt := h.ext.size
  have hsz := he.size
  refine ⟨?_, fun j hj => ?_, fun j k hj hk hjk g hg1 => ?_, ?_⟩
  · have := hown7.setAt len_eB1 i dQ (vA, vn, vc) 0 (.slice vA vn vc) hi (by omega) rfl
    simpa using this
  · by_cases hji : j = i
    · subst hji
      rw [getD_set_self (by omega), if_pos rfl]
      exact ho.tw hT (ho.apartB hc7 (by decide)) (by simp)
    · rw [getD_set_other hji, if_neg hji]
      have h6 := (h.rows j hj).ext he
      have h7 := h6.kept hg (by
        cases hv : (Value.slice (hd.getD j dQ).1 (hd.getD j dQ).2.1 (hd.getD j dQ).2.2).ownBlock with
        | none => exact .inl rfl
        | some g => exact .inr (fun e => h.apart j i hj hi hji g hv e.symm))
      exact h7.tw hT (h7.apartB hc7 (by decide)) (by simp)
  · have key : ∀ q, q < m → q ≠ i → ∀ g, (Value.slice (hd.getD q dQ).1 (hd.getD q dQ).2.1 (hd.getD q dQ).2.2).ownBlock = some g → (Value.slice vA vn vc).ownBlock ≠ some g := fun q hq hqi g hgq e => by
      rcases hr with hr | hr
      · rw [hr] at e; exact h.apart q i hq hi hqi g hgq e
      · rw [hr] at e
        have := ((h.rows q hq).lt g hgq).2
        injection e with e; omega
    by_cases hji : j = i
    · subst hji
      rw [getD_set_self (by omega)] at hg1
      rw [getD_set_other (fun e => hjk e.symm)]
      intro e
      exact key k hk (fun e => hjk e.symm) g e hg1
    · rw [getD_set_other hji] at hg1
      by_cases hki : k = i
      · subst hki
        rw [getD_set_self (by omega)]
        exact key j hj hji g hg1
      · rw [getD_set_other hki]
        exact h.apart j k hj hk hjk g hg1
  · have h1 : Ext w5 w7 := Own.below hri (Ext.trans h.ext he) hg (Nat.le_refl _)
    exact tw_ext' h1 hT (h.own.lt dO rfl).1
theorem RdI.lowTw {w w' : World} {rb o : Nat} {sc : Int} {tv bv : Value} {a : Int} {hs : List TrkH} {l : List TrkT} {ts : List TbH} {tl : List Tab} (h : RdI w rb sc tv bv a hs l ts tl) (hT : Tw w w' o none) (ho : o < rb) : RdI w' rb sc tv bv a hs l ts tl := by
  obtain ⟨h1, h2, h3, h4, h5, G, g1, g2, g3⟩ := h
  have hk : ∀ k, G k → w'.heap[k]? = w.heap[k]? := fun k hk => hT.block k (g1 k hk).2.1 (by have := (g1 k hk).1; omega) (by simp)
  exact ⟨hT.blk h1 (by omega) (by simp), h2.tw hT (fun e => by have := (h2.lt _ e).1; omega) (fun g hg e => by cases e), h3.tw hT (fun e => by have := (h3.lt _ e).1; omega) (fun g hg e => by cases e), h4, h5, G,
    fun k hk => ⟨(g1 k hk).1, Nat.lt_of_lt_of_le (g1 k hk).2.1 hT.size, (g1 k hk).2.2⟩, fun i y x hy hx => (g2 i y x hy hx).good hk (fun _ h => h), fun i y x hy hx => (g3 i y x hy hx).good hk (fun _ h => h)⟩
theorem RdI.tks {w : World} {rb : Nat} {sc : Int} {tA : Option Addr} {m tc : Nat} {bv : Value} {a : Int} {hs : List TrkH} {l : List TrkT} {ts : List TbH} {tl : List Tab} (h : RdI w rb sc (.slice tA m tc) bv a hs l ts tl) : TksAt w tA m tc hs l := by
  obtain ⟨_, k2, _, k4, _, G, _, g2, _⟩ := h
  have hlh : hs.length = m := k2.len len_eTk
  refine ⟨k2.atS len_eTk, by omega, fun j hj => ?_⟩
  have e1 : hs[j]? = some (hs.getD j default) := by rw [List.getD_eq_getElem?_getD, List.getElem?_eq_getElem (by omega)]; rfl
  have e2 : l[j]? = some (l.getD j default) := by rw [List.getD_eq_getElem?_getD, List.getElem?_eq_getElem (by omega)]; rfl
  exact (g2 j _ _ e1 e2).ok
theorem DaI.dts {w5 wr : World} {dO m : Nat} {hd : List (Option Addr × Nat × Nat)} {F : Nat → List UInt8} {D : List (List UInt8)} (h : DaI w5 wr dO m hd F) (hD : D.length = m) (hF : ∀ j, j < m → D.getD j [] = F j) : DtsAt wr (some ⟨dO, 0, none⟩) m m hd D :=
  ⟨h.own.atS len_eB1, hD, fun j hj => by rw [hF j hj]; exact (h.rows j hj).atS len_e8⟩
theorem DaI.lowTw {w5 wr w' : World} {dO m o : Nat} {hd : List (Option Addr × Nat × Nat)} {F : Nat → List UInt8} (h : DaI w5 wr dO m hd F) (hT : Tw wr w' o none) (ho : o < w5.heap.size) (D : List (List UInt8)) (hD : D.length = m) (hF : ∀ j, j < m → D.getD j [] = F j) : DtsAt w' (some ⟨dO, 0, none⟩) m m hd D :=
  ⟨(h.own.tw hT (fun e => by have := (h.own.lt _ e).1; omega) (fun g hg e => by cases e)).atS len_eB1, hD, fun j hj => by rw [hF j hj]; exact ((h.rows j hj).tw hT (fun e => by have := ((h.rows j hj).lt _ e).1; omega) (fun g hg e => by cases e)).atS len_e8⟩
def dF (b : List UInt8) (r : List TrR) (i k j : Nat) : List UInt8 :=
  if j < i then spB b (spS (r.getD j default).tab) else if j = i then spB b ((spS (r.getD i default).tab).take k) else []
theorem spB_app (b : List UInt8) (x y : List (Int × Int)) : spB b (x ++ y) = spB b x ++ spB b y := by unfold spB; rw [List.flatMap_append]
theorem spB_one (b : List UInt8) (x : Int × Int) : spB b [x] = pcB b x.1.toNat (x.1 + x.2).toNat := by unfold spB; simp
theorem spB_take {b : List UInt8} {s : List (Int × Int)} {k : Nat} (h : k < s.length) : spB b (s.take (k + 1)) = spB b (s.take k) ++ pcB b (s.getD k (0, 0)).1.toNat ((s.getD k (0, 0)).1 + (s.getD k (0, 0)).2).toNat := by
  rw [List.take_succ_eq_append_getElem h, spB_app, spB_one, List.getD_eq_getElem?_getD, List.getElem?_eq_getElem h]; rfl
theorem spB_none {b : List UInt8} {s : List (Int × Int)} {k : Nat} (h : k < s.length) (h0 : (s.getD k (0, 0)).2 = 0) : spB b (s.take (k + 1)) = spB b (s.take k) := by
  rw [spB_take h, h0, Int.add_zero]
  unfold pcB
  rw [Nat.sub_self, List.take_zero, List.append_nil]
theorem dF_more {b : List UInt8} {r : List TrR} {i k : Nat} {l : List UInt8} (h : spB b ((spS (r.getD i default).tab).take (k + 1)) = spB b ((spS (r.getD i default).tab).take k) ++ l) : ∀ j, dF b r i (k + 1) j = if j = i then dF b r i k i ++ l else dF b r i k j := fun j => by
  unfold dF
  by_cases hj : j = i
  · subst hj
    rw [if_neg (by omega), if_pos rfl, if_pos rfl, if_neg (by omega), if_pos rfl, h]
  · rw [if_neg hj, if_neg hj, if_neg hj]
theorem dF_same {b : List UInt8} {r : List TrR} {i k : Nat} (h : spB b ((spS (r.getD i default).tab).take (k + 1)) = spB b ((spS (r.getD i default).tab).take k)) : ∀ j, dF b r i (k + 1) j = dF b r i k j := fun j => by
  unfold dF
  rw [h]
theorem dF_next (b : List UInt8) (r : List TrR) (i : Nat) : ∀ j, dF b r (i + 1) 0 j = dF b r i (spS (r.getD i default).tab).length j := fun j => by
  unfold dF
  by_cases h1 : j < i
  · rw [if_pos (by omega), if_pos h1]
  · by_cases h2 : j = i
    · subst h2
      rw [if_pos (by omega), if_neg h1, if_pos rfl, List.take_length]
    · rw [if_neg (by omega), if_neg h1, if_neg h2]
      by_cases h3 : j = i + 1
      · rw [if_pos h3, List.take_zero]; rfl
      · rw [if_neg h3]
theorem dF_zero (b : List UInt8) (r : List TrR) : ∀ j, dF b r 0 0 j = [] := fun j => by
  unfold dF
  rw [if_neg (by omega)]
  split
  · rw [List.take_zero]; rfl
  · rfl
theorem spB_len {b : List UInt8} {s : List (Int × Int)} (h : ∀ x ∈ s, 0 ≤ x.1 ∧ x.2 ≤ 100000) : (spB b s).length ≤ 100000 * s.length := by
  induction s with
  | nil => simp [spB]
  | cons x s ih =>
    have h1 := ih (fun y hy => h y (List.mem_cons_of_mem _ hy))
    have h2 := h x (by simp)
    have e : spB b (x :: s) = spB b [x] ++ spB b s := spB_app b [x] s
    rw [e, List.length_append, spB_one, List.length_cons]
    unfold pcB
    rw [List.length_take]
    omega
theorem sp_right {t : Tab} (h : expF t = 0) : (spS t).length ≤ 5000 ∧ ∀ i, i < (spS t).length → (0 ≤ ((spS t).getD i (0, 0)).1 ∧ ((spS t).getD i (0, 0)).1 ≤ 1000000000) ∧ (0 ≤ ((spS t).getD i (0, 0)).2 ∧ ((spS t).getD i (0, 0)).2 ≤ 100000) := by
  have hf : tabF t = 0 := by
    unfold expF at h
    split at h
    · rename_i hn; exact absurd h hn
    · rename_i hn; exact Classical.not_not.1 hn
  have hR := tab_right hf
  refine ⟨?_, fun i hi => spS_bd hR hi⟩
  rw [spS_len hR]
  have h1 := exN_eq hR
  have h2 := hR.few
  omega
theorem spB_few {b : List UInt8} {t : Tab} (h : expF t = 0) (k : Nat) : (spB b ((spS t).take k)).length ≤ 500000000 := by
  obtain ⟨h1, h2⟩ := sp_right h
  have h3 : (spB b ((spS t).take k)).length ≤ 100000 * ((spS t).take k).length := spB_len (fun x hx => by
    have hx2 := List.mem_of_mem_take hx
    obtain ⟨i, hi, rfl⟩ := List.getElem_of_mem hx2
    have := h2 i hi
    rw [List.getD_eq_getElem?_getD, List.getElem?_eq_getElem hi] at this
    exact ⟨this.1.1, this.2.2⟩)
  rw [List.length_take] at h3
  omega
theorem okSp_in {b : List UInt8} {l : List NodeT} {p z : Int} (hen : ∀ x ∈ l, x.en ≤ b.length) (h : okSp l (p, z) = true) (hz : 0 < z) : p + z ≤ (b.length : Int) := by
  unfold okSp at h
  rw [Bool.or_eq_true] at h
  rcases h with h | h
  · unfold inD at h
    obtain ⟨x, hx, hp⟩ := List.any_eq_true.1 h
    have h2 := of_decide_eq_true hp
    have := hen x hx
    omega
  · have := of_decide_eq_true h
    simp only at this
    omega
end Go.Proofs.Ytkbmgakehlmcnaa
