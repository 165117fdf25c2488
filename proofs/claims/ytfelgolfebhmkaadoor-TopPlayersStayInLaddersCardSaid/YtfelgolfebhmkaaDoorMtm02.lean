/- Several texts in one: An append onto an own row, met in a region that draws its order; a fresh cell that reads as a list. Conditions as stated; A world in which one block and one row have turned, and new blocks are there. No condition; Plain: the rendition that a viewer takes. No condition. -/
import Derived.Test.YtfelgolfebhmkaaDoorMtm00
import Init
namespace Go.Proofs.YtfelgolfebhmkaaDoor
open Go.RowKit
theorem step_append_at {P : Program} {w : World} {α : Type} {enc : α → List Value} {size : Nat} {ops : Array Oper} {o : Oper} {a : Act} {K : Act → World → Prop} {Q : Exit → Act → World → Prop} {E : Prop} (hgd : o.guard = none) (s x : Operand) (t : TypeId)
    (ho : o.op = .call { callee := .builtin .append, args := #[s, x], argTypes := #[t, t] })
    (base : Nat) (e : TypeId) (i : TypeInfo) (z : Value) (bytes : Nat) (ht : P.underlying t = some (.slice e)) (hi : P.info? e = some i) (hz : i.zero = some z)
    (hsize : i.size = size) (hby : i.bytes = bytes) (hzs : z.cells.size = size) (hsz : 0 < size) (henc : ∀ x, (enc x).length = size) (h1 : ∀ x, ∀ u ∈ enc x, u.oneCell' = true)
    (v : Value) (xs : List α) (hs : a.eval s = v) (hown : Own w base e size enc v xs) (A : Option Addr) (m c : Nat) (ys : List α) (hx : a.eval x = .slice A m c) (hr : At w size enc A m c ys)
    (h63 : xs.length + m ≤ maxLen) (hbytes : (xs.length + m) * bytes ≤ 140737488355328) (hbase : base ≤ w.heap.size)
    (h : ∀ v' w', Own w' base e size enc v' (xs ++ ys) → w.grownBy w' v.ownBlock → (v' = .slice none 0 0 ↔ v = .slice none 0 0 ∧ m = 0) → (v'.ownBlock = v.ownBlock ∨ v'.ownBlock = some w.heap.size) → K (a.put o.dst v') w') :
    if Region.wanted o (yielded ops a.tmps) = true then Oper.wp P o a w K Q else E := by
  have hw : Region.wanted o (yielded ops a.tmps) = true := by simp [Region.wanted, hgd]
  rw [if_pos hw]
  exact wp_append_at w s x t ho base e i z bytes ht hi hz hsize hby hzs hsz henc h1 v xs hs hown A m c ys hx hr h63 hbytes hbase h
theorem len_e64 (x : Int) : (e64 x).length = 1 := rfl
theorem one_e64 (x : Int) : ∀ u ∈ e64 x, u.oneCell' = true := by intro u hu; simp at hu; subst hu; rfl
theorem At.new1 {α : Type} {enc : α → List Value} (w : World) (x : α) (u : Value) (hu : enc x = [u]) (t : TypeId) : At (w.alloc (.cells #[u] t)) 1 enc (some ⟨w.heap.size, 0, none⟩) 1 1 [x] :=
  ⟨rfl, Nat.le_refl _, by unfold maxLen; omega, fun h => (by cases h), fun k z hz => ⟨_, _, rfl, fun j v hv => by
    match k, hz with
    | 0, hz =>
      simp at hz; subst hz
      rw [hu] at hv
      match j, hv with
      | 0, hv =>
        simp at hv; subst hv
        exact (Blk.new w _ _).cell 0
      | j + 1, hv => simp at hv
    | k + 1, hz => simp at hz⟩⟩
theorem At.cellK {α : Type} {w : World} {sz : Nat} {enc : α → List Value} {b off n c : Nat} {xs : List α} (h : At w sz enc (some ⟨b, off, none⟩) n c xs) {k : Nat} (hk : k < n) (d : α) (j : Nat) (u : Value) (hu : (enc (xs.getD k d))[j]? = some u) :
    w.cell? ⟨b, off + k * sz + j, none⟩ = some u := by
  have hl := h.len
  obtain ⟨b', off', e, hc⟩ := h.cells k _ (List.getElem?_eq_getElem (by omega))
  injection e with e
  injection e with e1 e2
  subst e1 e2
  refine hc j u ?_
  rw [show xs.getD k d = xs[k]'(by omega) by simp [List.getD, show k < xs.length by omega]] at hu
  exact hu
structure Tw (w w' : World) (o : Nat) (row : Option Nat) : Prop where
  os : w'.os = w.os
  tape : w'.tape = w.tape
  output : w'.output = w.output
  size : w.heap.size ≤ w'.heap.size
  block : ∀ k, k < w.heap.size → k ≠ o → some k ≠ row → w'.heap[k]? = w.heap[k]?
theorem Tw.of_ext {w w' : World} (h : Ext w w') (o : Nat) (row : Option Nat) : Tw w w' o row := ⟨h.os, h.tape, h.output, h.size, fun k hk _ _ => h.block k hk⟩
theorem Tw.of_grown {w w' : World} {o : Nat} {row : Option Nat} (h : w.grownBy w' row) : Tw w w' o row := ⟨h.os, h.tape, h.output, h.size, fun k hk _ hr => h.block k hk hr⟩
theorem Tw.more {w w' : World} {o : Nat} (h : Tw w w' o none) (row : Option Nat) : Tw w w' o row := ⟨h.os, h.tape, h.output, h.size, fun k hk ho _ => h.block k hk ho (by simp)⟩
theorem Tw.refl (w : World) (o : Nat) (row : Option Nat) : Tw w w o row := Tw.of_ext (Ext.refl w) o row
theorem Tw.set_ (w : World) (o i : Nat) (v : Value) (row : Option Nat) : Tw w (w.setCell ⟨o, i, none⟩ v) o row :=
  ⟨rfl, rfl, rfl, by simp [World.setCell], fun k _ hk _ => Below.heap_setCell w ⟨o, i, none⟩ v k (by simpa using hk)⟩
theorem Tw.trans {a b c : World} {o : Nat} {row : Option Nat} (h : Tw a b o row) (k : Tw b c o row) : Tw a c o row :=
  ⟨k.os.trans h.os, k.tape.trans h.tape, k.output.trans h.output, Nat.le_trans h.size k.size, fun j hj ho hr => (k.block j (Nat.lt_of_lt_of_le hj h.size) ho hr).trans (h.block j hj ho hr)⟩
theorem Tw.drew {w w' : World} {o : Nat} {row : Option Nat} (h : Tw w w' o row) : Tw w w'.drew o row := ⟨h.os, h.tape, h.output, h.size, h.block⟩
theorem Tw.drewN {w w' : World} {o : Nat} {row : Option Nat} (h : Tw w w' o row) (n : Nat) : Tw w (w'.drewN n) o row := ⟨h.os, h.tape, h.output, h.size, h.block⟩
theorem Tw.blk {w w' : World} {o g : Nat} {row : Option Nat} {t : TypeId} {cs : Array Value} (h : Tw w w' o row) (hb : Blk w g t cs) (ho : g ≠ o) (hr : some g ≠ row) : Blk w' g t cs := (h.block g hb.lt ho hr).trans hb
theorem Tw.below {w w' : World} {o : Nat} {row : Option Nat} {C : Nat} (h : Tw w w' o row) (hC : C ≤ w.heap.size) (ho : C ≤ o) (hr : ∀ g, row = some g → C ≤ g) : Below C w w' :=
  ⟨h.os, h.tape, h.output, h.size, fun k hk => h.block k (by omega) (by omega) (fun e => by have := hr k e.symm; omega)⟩
theorem Own.tw {α : Type} {w w' : World} {base : Nat} {t : TypeId} {sz : Nat} {enc : α → List Value} {v : Value} {xs : List α} {o : Nat} {row : Option Nat} (h : Own w base t sz enc v xs) (hF : Tw w w' o row)
    (h1 : v.ownBlock ≠ some o) (h2 : ∀ g, v.ownBlock = some g → row ≠ some g) : Own w' base t sz enc v xs := by
  refine ⟨h.1, ?_⟩
  have hlt := h.lt
  rcases h.2 with h3 | ⟨g, cap, cur, hv, hb, hg, r⟩
  · exact .inl h3
  · have hvg : v.ownBlock = some g := by rw [hv]; rfl
    have hgl := (hlt g hvg).2
    exact .inr ⟨g, cap, cur, hv, hb, (hF.block g hgl (fun e => h1 (by rw [hvg, e])) (fun e => h2 g hvg e.symm)).trans hg, r⟩
theorem At.tw {α : Type} {w w' : World} {sz : Nat} {enc : α → List Value} {A : Option Addr} {n c : Nat} {xs : List α} {o : Nat} {row : Option Nat} (h : At w sz enc A n c xs) (hF : Tw w w' o row) (hne : ∀ a, A = some a → a.block ≠ o ∧ some a.block ≠ row) : At w' sz enc A n c xs :=
  ⟨h.len, h.le, h.max, h.none_, fun k x hx => by
    obtain ⟨b, off, e, hc⟩ := h.cells k x hx
    obtain ⟨h1, h2⟩ := hne _ e
    refine ⟨b, off, e, fun j u hu => ?_⟩
    have h3 := hc j u hu
    have h4 := hF.block b (by have := cell_lt h3; simpa using this) h1 h2
    unfold World.cell? at h3 ⊢
    simp only at h3 ⊢
    rw [h4]
    exact h3⟩
theorem grown_set (w : World) (g i : Nat) (v : Value) : w.grownBy (w.setCell ⟨g, i, none⟩ v) (some g) :=
  ⟨rfl, rfl, rfl, by simp [World.setCell], fun k _ hk => Below.heap_setCell _ _ _ k (fun h => hk (by rw [h]))⟩
theorem gen_bod {P : Program} {f : Func} {Q : Ending → World → Prop} {x : Exit} {a : Act} {W : World} (h : ∀ W', W' = W → bodyPost P f Q x a W') : bodyPost P f Q x a W := h W rfl
theorem gen_wpC {P : Program} {c : Code} {Q : Exit → Act → World → Prop} {a : Act} {W : World} (h : ∀ W', W' = W → Code.wp P c Q a W') : Code.wp P c Q a W := h W rfl
theorem gen_the {K : Act → World → Prop} {Q : Exit → Act → World → Prop} {e : Exit} {a : Act} {w : World} (h : ∀ W, W = w → Exit.then K Q e a W) : Exit.then K Q e a w := h w rfl
theorem gen_blo {n : Nat} {Q : Exit → Act → World → Prop} {e : Exit} {a : Act} {w : World} (h : ∀ W, W = w → Exit.inBlock n Q e a W) : Exit.inBlock n Q e a w := h w rfl
end Go.Proofs.YtfelgolfebhmkaaDoor
namespace Go.Proofs.YtfelgolfebhmkaaDoor
def tkF (R Q : List Int) (v : Int) : Nat → Int
  | 0 => -1
  | i + 1 => if R.getD i 0 ≤ v ∧ (tkF R Q v i < 0 ∨ Q.getD (tkF R Q v i).toNat 0 < Q.getD i 0) then (i : Int) else tkF R Q v i
theorem tkF_bd (R Q : List Int) (v : Int) : ∀ i : Nat, -1 ≤ tkF R Q v i ∧ tkF R Q v i < (i : Int)
  | 0 => by simp [tkF]
  | i + 1 => by
    have ih := tkF_bd R Q v i
    rw [tkF]
    split <;> omega
theorem tkF_best (R Q : List Int) (v : Int) : ∀ (i j : Nat), j < i → R.getD j 0 ≤ v → 0 ≤ tkF R Q v i ∧ Q.getD j 0 ≤ Q.getD (tkF R Q v i).toNat 0
  | 0, j, h, _ => absurd h (Nat.not_lt_zero _)
  | i + 1, j, h, hj => by
    have hb := tkF_bd R Q v i
    rw [tkF]
    by_cases hji : j = i
    · subst hji
      by_cases hc : R.getD j 0 ≤ v ∧ (tkF R Q v j < 0 ∨ Q.getD (tkF R Q v j).toNat 0 < Q.getD j 0)
      · rw [if_pos hc, Int.toNat_natCast]
        exact ⟨by omega, Int.le_refl _⟩
      · rw [if_neg hc]
        exact ⟨by omega, by omega⟩
    · have ih := tkF_best R Q v i j (by omega) hj
      by_cases hc : R.getD i 0 ≤ v ∧ (tkF R Q v i < 0 ∨ Q.getD (tkF R Q v i).toNat 0 < Q.getD i 0)
      · rw [if_pos hc, Int.toNat_natCast]
        exact ⟨by omega, by omega⟩
      · rw [if_neg hc]
        exact ih
end Go.Proofs.YtfelgolfebhmkaaDoor
