/- Several texts in one: Walks of the reference's encrypted. Conditions: lengths as stated; Laws for copies between rows of bytes, and slices.Clone of bytes. Conditions as stated; Words for stores into an owned row of one-cell elements. No condition; Walk of the reference's decrypted. Conditions: lengths as stated; Walks: blockFault; EncryptBlock and DecryptBlock of the program and of the document. Conditions as stated. -/
import Derived.Test.YtkbmgakehlmcnaaMtq06
import Derived.Laws.CopyOwn
import Derived.Test.YtkbmgakehlmcnaaMtq00
namespace Go.Proofs.Ytkbmgakehlmcnaa
open Go.RowKit Kc
theorem gen_wp {P : Program} {c : Code} {Q : Exit → Act → World → Prop} {a : Act} {w : World} (h : ∀ W, W = w → c.wp P Q a W) : c.wp P Q a w := h w rfl
theorem gen_calls {P : Program} {f : FuncId} {args : Array Value} {w : World} {R : Ending → World → Prop} (h : ∀ W, W = w → Calls P f args W R) : Calls P f args w R := h w rfl
theorem At.grown {α : Type} {w w' : World} {sz : Nat} {enc : α → List Value} {A : Option Addr} {n c : Nat} {xs : List α} (h : At w sz enc A n c xs) {row : Option Nat} (hg : w.grownBy w' row)
    (hne : ∀ a, A = some a → some a.block ≠ row) : At w' sz enc A n c xs :=
  ⟨h.len, h.le, h.max, h.none_, fun k x hx => by
    obtain ⟨b, off, e, hc⟩ := h.cells k x hx
    exact ⟨b, off, e, fun j u hu => hg.cell (hc j u hu) (by have := hne _ e; simpa using this)⟩⟩
def spl {α : Type} (l : List α) (off : Nat) (m : List α) : List α := l.take off ++ (m ++ l.drop (off + m.length))
theorem map_spl {α β : Type} (f : α → β) (l : List α) (off : Nat) (m : List α) : (spl l off m).map f = (l.map f).take off ++ (m.map f ++ (l.map f).drop (off + (m.map f).length)) := by
  simp [spl, List.map_take, List.map_drop]
theorem length_spl {α : Type} (l : List α) (off : Nat) (m : List α) (h : off + m.length ≤ l.length) : (spl l off m).length = l.length := by simp [spl]; omega
theorem wp_copy_bytes {P : Program} {w : World} {o : Oper} {a : Act} {K : Act → World → Prop} {Q : Exit → Act → World → Prop} (d s : Operand) (dT sT : TypeId)
    (ho : o.op = .call { callee := .builtin .copy, args := #[d, s], argTypes := #[dT, sT] }) (elem : TypeId) (hu : P.underlying dT = some (.slice elem)) (hsz : (P.info? elem).map (·.size) = some 1)
    (g off dLen dCap : Nat) (A : Option Addr) (n c : Nat) (hd : a.eval d = .slice (some ⟨g, off, none⟩) dLen dCap) (hs : a.eval s = .slice A n c)
    (l : List UInt8) (t : TypeId) (hg : Blk w g t (l.map B8).toArray) (m : List UInt8) (hm : At w 1 e8 A n c m) (hn : n ≤ dLen) (hn0 : 0 < n) (hfit : off + n ≤ l.length)
    (h : ∀ w', Blk w' g t ((spl l off m).map B8).toArray → w.grownBy w' (some g) → K (a.put o.dst (goInt n)) w') : o.wp P a w K Q := by
  obtain ⟨b, so, rfl, hc⟩ := hm.addr hn0
  have hl := hm.len
  have e : (m.map B8).length = n := by simp [hl]
  have hrun := run_copy_row (P := P) w dT sT o.type elem g off dLen dCap ⟨b, so, none⟩ n c (l.map B8).toArray t (m.map B8) hu hsz hg (by simp [hl, Nat.min_eq_left hn]) (fun j v hv => by
    have hj : j < m.length := by have := (List.getElem?_eq_some_iff.1 hv).1; simpa using this
    rw [List.getElem?_map, List.getElem?_eq_getElem hj] at hv
    have := hc j hj 0 v (by simpa using hv)
    rw [Addr.add_lit]
    simpa using this) (by simp; omega) (fun v hv => by
    obtain ⟨x, _, rfl⟩ := List.mem_map.1 hv
    rfl)
  have hset := setRow_heap w g _ ((l.map B8).toArray.toList.take off ++ (m.map B8 ++ (l.map B8).toArray.toList.drop (off + n))).toArray t (0, 0) hg
  have k := h (w.setRow g ((l.map B8).toArray.toList.take off ++ (m.map B8 ++ (l.map B8).toArray.toList.drop (off + n))).toArray) (by
    unfold Blk
    rw [map_spl, e]
    exact hset) ⟨rfl, rfl, rfl, by simp, fun k _ hk => setRow_other w g k _ (fun e => hk (by rw [e]))⟩
  rw [e, List.append_assoc] at hrun
  unfold Oper.wp execOp
  simp only [ho, resolve, invoke, builtin, Sem.run_bind, Sem.run_pure, Result.andThen_ok, List.map_toArray, List.map_cons, List.map_nil, hd, hs]
  rw [hrun]
  exact k
theorem wpList_copy_bytes {P : Program} {w : World} {ops : Array Oper} {rest : List Oper} {o : Oper} {a : Act} {Q : Exit → Act → World → Prop} (hgd : o.guard = none) (d s : Operand) (dT sT : TypeId)
    (ho : o.op = .call { callee := .builtin .copy, args := #[d, s], argTypes := #[dT, sT] }) (elem : TypeId) (hu : P.underlying dT = some (.slice elem)) (hsz : (P.info? elem).map (·.size) = some 1)
    (g off dLen dCap : Nat) (A : Option Addr) (n c : Nat) (hd : a.eval d = .slice (some ⟨g, off, none⟩) dLen dCap) (hs : a.eval s = .slice A n c)
    (l : List UInt8) (t : TypeId) (hg : Blk w g t (l.map B8).toArray) (m : List UInt8) (hm : At w 1 e8 A n c m) (hn : n ≤ dLen) (hn0 : 0 < n) (hfit : off + n ≤ l.length)
    (h : ∀ w', Blk w' g t ((spl l off m).map B8).toArray → w.grownBy w' (some g) → wpList P ops Q rest (a.put o.dst (goInt n)) w') : wpList P ops Q (o :: rest) a w :=
  wpList_plain hgd fun _ hK => wp_copy_bytes d s dT sT ho elem hu hsz g off dLen dCap A n c hd hs l t hg m hm hn hn0 hfit fun w' h1 h2 => hK _ _ (h w' h1 h2)
theorem step_copy_bytes {P : Program} {w : World} {ops : Array Oper} {o : Oper} {a : Act} {K : Act → World → Prop} {Q : Exit → Act → World → Prop} {E : Prop} (hgd : o.guard = none) (d s : Operand) (dT sT : TypeId)
    (ho : o.op = .call { callee := .builtin .copy, args := #[d, s], argTypes := #[dT, sT] }) (elem : TypeId) (hu : P.underlying dT = some (.slice elem)) (hsz : (P.info? elem).map (·.size) = some 1)
    (g off dLen dCap : Nat) (A : Option Addr) (n c : Nat) (hd : a.eval d = .slice (some ⟨g, off, none⟩) dLen dCap) (hs : a.eval s = .slice A n c)
    (l : List UInt8) (t : TypeId) (hg : Blk w g t (l.map B8).toArray) (m : List UInt8) (hm : At w 1 e8 A n c m) (hn : n ≤ dLen) (hn0 : 0 < n) (hfit : off + n ≤ l.length)
    (h : ∀ w', Blk w' g t ((spl l off m).map B8).toArray → w.grownBy w' (some g) → K (a.put o.dst (goInt n)) w') :
    if Region.wanted o (yielded ops a.tmps) = true then Oper.wp P o a w K Q else E := by
  have hw : Region.wanted o (yielded ops a.tmps) = true := by simp [Region.wanted, hgd]
  rw [if_pos hw]
  exact wp_copy_bytes d s dT sT ho elem hu hsz g off dLen dCap A n c hd hs l t hg m hm hn hn0 hfit h
theorem grown_setK (w : World) (g i : Nat) (v : Value) : w.grownBy (w.setCell ⟨g, i, none⟩ v) (some g) :=
  ⟨rfl, rfl, rfl, by simp [World.setCell], fun k _ hk => Below.heap_setCell w _ _ k (fun e => hk (by rw [e]))⟩
theorem arr8 (l : List UInt8) (h : l.length = 8) : #[B8 (l.getD 0 0), B8 (l.getD 1 0), B8 (l.getD 2 0), B8 (l.getD 3 0), B8 (l.getD 4 0), B8 (l.getD 5 0), B8 (l.getD 6 0), B8 (l.getD 7 0)] = (l.map B8).toArray := by
  match l, h with
  | [a0, a1, a2, a3, a4, a5, a6, a7], _ => rfl
theorem At.blk {w : World} {g : Nat} {t : TypeId} {l : List UInt8} (h : Blk w g t (l.map B8).toArray) (hl : l.length ≤ maxLen) : At w 1 e8 (some ⟨g, 0, none⟩) l.length l.length l :=
  ⟨rfl, Nat.le_refl _, hl, fun h => (by cases h), fun k x hx => ⟨g, 0, rfl, fun j u hu => by
    match j, hu with
    | 0, hu =>
      simp at hu; subst hu
      rw [h.cell]
      simp [hx]
    | j + 1, hu => simp at hu⟩⟩
theorem At.new8 (w : World) (l : List UInt8) (h : l.length = 8) (t : TypeId) : At (w.alloc (.cells #[B8 (l.getD 0 0), B8 (l.getD 1 0), B8 (l.getD 2 0), B8 (l.getD 3 0), B8 (l.getD 4 0), B8 (l.getD 5 0), B8 (l.getD 6 0), B8 (l.getD 7 0)] t)) 1 e8 (some ⟨w.heap.size, 0, none⟩) 8 8 l := by
  have hb := Blk.new w t #[B8 (l.getD 0 0), B8 (l.getD 1 0), B8 (l.getD 2 0), B8 (l.getD 3 0), B8 (l.getD 4 0), B8 (l.getD 5 0), B8 (l.getD 6 0), B8 (l.getD 7 0)]
  have := At.blk (l := l) (w := w.alloc (.cells #[B8 (l.getD 0 0), B8 (l.getD 1 0), B8 (l.getD 2 0), B8 (l.getD 3 0), B8 (l.getD 4 0), B8 (l.getD 5 0), B8 (l.getD 6 0), B8 (l.getD 7 0)] t)) (g := w.heap.size) (t := t) (by rw [← arr8 l h]; exact hb) (by rw [h]; unfold maxLen; omega)
  rw [h] at this
  exact this
def padZ (n : Nat) : Nat := (23 - n % 16) % 16
def digText (b : List UInt8) : List UInt8 := b ++ [128] ++ List.replicate (padZ b.length) 0 ++ beL 8 b.length
def digStep (st p : List UInt8) : List UInt8 := xor8 (encB p (st.take 8)) (st.take 8) ++ xor8 (encB (p.map (255 - ·)) (st.drop 8)) (st.drop 8)
def digN : Nat → List UInt8 → List UInt8 → List UInt8
  | 0, _, st => st
  | n + 1, t, st => digN n (t.drop 16) (digStep st (t.take 16))
def st0 : List UInt8 := (List.range 16).map fun i => UInt8.ofNat i
def digest (b : List UInt8) : List UInt8 := digN ((digText b).length / 16) (digText b) st0
theorem length_xor8 (l m : List UInt8) : (xor8 l m).length = 8 := rfl
theorem length_digStep (st p : List UInt8) : (digStep st p).length = 16 := rfl
theorem length_digN : ∀ (n : Nat) (t st : List UInt8), st.length = 16 → (digN n t st).length = 16
  | 0, _, _, h => h
  | n + 1, _, _, _ => length_digN n _ _ (length_digStep _ _)
theorem length_digest (b : List UInt8) : (digest b).length = 16 := length_digN _ _ _ rfl
theorem length_digText (b : List UInt8) : (digText b).length = b.length + 1 + padZ b.length + 8 := by simp [digText, length_beL]; omega
theorem digText_mod (b : List UInt8) : (digText b).length % 16 = 0 := by rw [length_digText]; unfold padZ; omega
end Go.Proofs.Ytkbmgakehlmcnaa
namespace Go.Proofs.Ytkbmgakehlmcnaa
open Go.RowKit
theorem Own.where_ {α : Type} {w : World} {base : Nat} {t : TypeId} {sz : Nat} {enc : α → List Value} {A : Option Addr} {n c : Nat} {xs : List α} (h : Own w base t sz enc (.slice A n c) xs) (hn : 0 < n) (hl : xs.length = n) :
    ∃ g, A = some ⟨g, 0, none⟩ ∧ base ≤ g ∧ g < w.heap.size := by
  unfold Own at h
  rw [hl] at h
  obtain ⟨g, cap, hv, hb, hg⟩ := World.ownsRow.form h hn
  injection hv with h1 h2 h3
  exact ⟨g, h1, hb, hg⟩
theorem Own.row1 {α : Type} {w : World} {base : Nat} {t : TypeId} {enc : α → List Value} {g n c : Nat} {xs : List α} (h : Own w base t 1 enc (.slice (some ⟨g, 0, none⟩) n c) xs) :
    ∃ cur, Blk w g t cur ∧ n ≤ c ∧ c ≤ maxLen ∧ cur.size = c ∧ xs.length = n ∧ cur.toList.take n = xs.flatMap enc ∧ base ≤ g := by
  obtain ⟨h0, h⟩ := h
  rcases h with ⟨hv, _⟩ | ⟨g', cap, cur, hv, hb, hg, hnc, hcm, hcs, ht⟩
  · cases hv
  · injection hv with h1 h2 h3
    injection h1 with h1
    injection h1 with h1
    subst h1 h3
    exact ⟨cur, hg, by omega, hcm, by omega, h2.symm, by rw [h2]; rw [← ht, Nat.mul_one], hb⟩
theorem Own.frozen1 {α : Type} {w : World} {base : Nat} {t : TypeId} {enc : α → List Value} {g n c : Nat} {xs : List α} (h : Own w base t 1 enc (.slice (some ⟨g, 0, none⟩) n c) xs) (i : Nat) : w.frozen? ⟨g, i, none⟩ = false := by
  obtain ⟨cur, hg, _⟩ := h.row1
  exact hg.frozen i
theorem flat_set {α : Type} {enc : α → List Value} (hsz : ∀ x, (enc x).length = 1) : ∀ (xs : List α) (k : Nat) (x : α) (u : Value), enc x = [u] → (xs.flatMap enc).set k u = (xs.set k x).flatMap enc
  | [], _, _, _, _ => rfl
  | y :: ys, 0, x, u, hu => by
    have hy := hsz y
    rw [List.set_cons_zero, List.flatMap_cons, List.flatMap_cons, hu]
    match h : enc y, hy with
    | [v], _ => rfl
  | y :: ys, k + 1, x, u, hu => by
    have hy := hsz y
    rw [List.set_cons_succ, List.flatMap_cons, List.flatMap_cons, ← flat_set hsz ys k x u hu]
    match h : enc y, hy with
    | [v], _ => rfl
theorem Own.set1 {α : Type} {w : World} {base : Nat} {t : TypeId} {enc : α → List Value} {g n c : Nat} {xs : List α} (hsz : ∀ x, (enc x).length = 1) (h : Own w base t 1 enc (.slice (some ⟨g, 0, none⟩) n c) xs) (k : Nat) (x : α) (u : Value) (hu : enc x = [u]) :
    Own (w.setCell ⟨g, k, none⟩ u) base t 1 enc (.slice (some ⟨g, 0, none⟩) n c) (xs.set k x) := by
  obtain ⟨cur, hg, hnc, hcm, hcs, hl, ht, hb⟩ := h.row1
  refine ⟨by rw [flat_len hsz], .inr ⟨g, c, _, by rw [List.length_set, hl], hb, hg.set_ k u, by rw [List.length_set, hl]; exact hnc, hcm, by simp [hcs], ?_⟩⟩
  rw [List.length_set, hl, Nat.mul_one, Array.toList_setIfInBounds, List.take_set, ht]
  exact flat_set hsz xs k x u hu
end Go.Proofs.Ytkbmgakehlmcnaa
namespace Go.Proofs.Ytkbmgakehlmcnaa
open Go.RowKit Kc
theorem neq_b {a b : Int} (h : a ≠ b) : (a != b) = true := by rw [bne_iff_ne]; exact h
end Go.Proofs.Ytkbmgakehlmcnaa
