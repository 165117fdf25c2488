/- A world in which one block and one row have turned, and new blocks are there. No condition. -/
import Derived.Test.YtoliplgadhdgbaaDoorBase
namespace Go.Proofs.YtoliplgadhdgbaaDoor
open Go.RowKit

/-- The world w' is w but for block o, one more block, and new ones. -/
structure Tw (w w' : World) (o : Nat) (row : Option Nat) : Prop where
  os : w'.os = w.os
  tape : w'.tape = w.tape
  output : w'.output = w.output
  size : w.heap.size ≤ w'.heap.size
  block : ∀ k, k < w.heap.size → k ≠ o → some k ≠ row → w'.heap[k]? = w.heap[k]?
theorem Tw.of_ext {w w' : World} (h : Ext w w') (o : Nat) (row : Option Nat) : Tw w w' o row := ⟨h.os, h.tape, h.output, h.size, fun k hk _ _ => h.block k hk⟩
theorem Tw.of_grown {w w' : World} {o : Nat} {row : Option Nat} (h : w.grownBy w' row) : Tw w w' o row := ⟨h.os, h.tape, h.output, h.size, fun k hk _ hr => h.block k hk hr⟩
theorem Tw.more {w w' : World} {o : Nat} (h : Tw w w' o none) (row : Option Nat) : Tw w w' o row := ⟨h.os, h.tape, h.output, h.size, fun k hk ho _ => h.block k hk ho (by simp)⟩
theorem Tw.refl (w : World) (o : Nat) (row : Option Nat) : Tw w w o row := Tw.of_ext (Ext.refl w) o row
theorem Tw.set_ (w : World) (o i : Nat) (v : Value) (row : Option Nat) : Tw w (w.setCell ⟨o, i, none⟩ v) o row :=
  ⟨rfl, rfl, rfl, by simp [World.setCell], fun k _ hk _ => Below.heap_setCell w ⟨o, i, none⟩ v k (by simpa using hk)⟩
theorem Tw.trans {a b c : World} {o : Nat} {row : Option Nat} (h : Tw a b o row) (k : Tw b c o row) : Tw a c o row :=
  ⟨k.os.trans h.os, k.tape.trans h.tape, k.output.trans h.output, Nat.le_trans h.size k.size, fun j hj ho hr => (k.block j (Nat.lt_of_lt_of_le hj h.size) ho hr).trans (h.block j hj ho hr)⟩
theorem Tw.drew {w w' : World} {o : Nat} {row : Option Nat} (h : Tw w w' o row) : Tw w w'.drew o row := ⟨h.os, h.tape, h.output, h.size, h.block⟩
theorem Tw.drewN {w w' : World} {o : Nat} {row : Option Nat} (h : Tw w w' o row) (n : Nat) : Tw w (w'.drewN n) o row := ⟨h.os, h.tape, h.output, h.size, h.block⟩
theorem Tw.blk {w w' : World} {o g : Nat} {row : Option Nat} {t : TypeId} {cs : Array Value} (h : Tw w w' o row) (hb : Blk w g t cs) (ho : g ≠ o) (hr : some g ≠ row) : Blk w' g t cs := (h.block g hb.lt ho hr).trans hb
theorem Tw.below {w w' : World} {o : Nat} {row : Option Nat} {C : Nat} (h : Tw w w' o row) (hC : C ≤ w.heap.size) (ho : C ≤ o) (hr : ∀ g, row = some g → C ≤ g) : Below C w w' :=
  ⟨h.os, h.tape, h.output, h.size, fun k hk => h.block k (by omega) (by omega) (fun e => by have := hr k e.symm; omega)⟩
theorem Own.tw {α : Type} {w w' : World} {base : Nat} {t : TypeId} {sz : Nat} {enc : α → List Value} {v : Value} {xs : List α} {o : Nat} {row : Option Nat} (h : Own w base t sz enc v xs) (hF : Tw w w' o row)
    (h1 : v.ownBlock ≠ some o) (h2 : ∀ g, v.ownBlock = some g → row ≠ some g) : Own w' base t sz enc v xs := by
  refine ⟨h.1, ?_⟩
  have hlt := h.lt
  rcases h.2 with h3 | ⟨g, cap, cur, hv, hb, hg, r⟩
  · exact .inl h3
  · have hvg : v.ownBlock = some g := by rw [hv]; rfl
    have hgl := (hlt g hvg).2
    exact .inr ⟨g, cap, cur, hv, hb, (hF.block g hgl (fun e => h1 (by rw [hvg, e])) (fun e => h2 g hvg e.symm)).trans hg, r⟩
theorem At.tw {α : Type} {w w' : World} {sz : Nat} {enc : α → List Value} {A : Option Addr} {n c : Nat} {xs : List α} {o : Nat} {row : Option Nat} (h : At w sz enc A n c xs) (hF : Tw w w' o row) (hne : ∀ a, A = some a → a.block ≠ o ∧ some a.block ≠ row) : At w' sz enc A n c xs :=
  ⟨h.len, h.le, h.max, h.none_, fun k x hx => by
    obtain ⟨b, off, e, hc⟩ := h.cells k x hx
    obtain ⟨h1, h2⟩ := hne _ e
    refine ⟨b, off, e, fun j u hu => ?_⟩
    have h3 := hc j u hu
    have h4 := hF.block b (by have := cell_lt h3; simpa using this) h1 h2
    unfold World.cell? at h3 ⊢
    simp only at h3 ⊢
    rw [h4]
    exact h3⟩
theorem grown_set (w : World) (g i : Nat) (v : Value) : w.grownBy (w.setCell ⟨g, i, none⟩ v) (some g) :=
  ⟨rfl, rfl, rfl, by simp [World.setCell], fun k _ hk => Below.heap_setCell _ _ _ k (fun h => hk (by rw [h]))⟩
theorem gen_bod {P : Program} {f : Func} {Q : Ending → World → Prop} {x : Exit} {a : Act} {W : World} (h : ∀ W', W' = W → bodyPost P f Q x a W') : bodyPost P f Q x a W := h W rfl
theorem gen_wpC {P : Program} {c : Code} {Q : Exit → Act → World → Prop} {a : Act} {W : World} (h : ∀ W', W' = W → Code.wp P c Q a W') : Code.wp P c Q a W := h W rfl
theorem gen_the {K : Act → World → Prop} {Q : Exit → Act → World → Prop} {e : Exit} {a : Act} {w : World} (h : ∀ W, W = w → Exit.then K Q e a W) : Exit.then K Q e a w := h w rfl
theorem gen_blo {n : Nat} {Q : Exit → Act → World → Prop} {e : Exit} {a : Act} {w : World} (h : ∀ W, W = w → Exit.inBlock n Q e a W) : Exit.inBlock n Q e a w := h w rfl
end Go.Proofs.YtoliplgadhdgbaaDoor
