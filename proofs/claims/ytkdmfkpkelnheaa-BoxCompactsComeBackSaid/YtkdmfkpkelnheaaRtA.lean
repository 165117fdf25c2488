/- Walk: readTable (program). Conditions as stated. -/
import Derived.Test.YtkdmfkpkelnheaaLstB
import Derived.Test.YtkdmfkpkelnheaaTabB
import Derived.Test.YtkdmfkpkelnheaaTakeD
namespace Go.Proofs.Ytkdmfkpkelnheaa
open Go.RowKit
theorem Try.info51 : (Try.prog.info? 51).map (fun i => (i.zero, i.size, i.bytes)) = some (some (.agg #[.int .i64 0, .int .i64 0]), 2, 16) := by kernel_rfl
/-- A list in blocks from a place on. -/
structure LA {α : Type} (W : World) (base sz : Nat) (enc : α → List Value) (T : Option Addr) (k tc : Nat) (l : List α) : Prop where
  at_ : At W sz enc T k tc l
  lo : ∀ a, T = some a → base ≤ a.block
theorem LA.tw {α : Type} {W W' : World} {base sz o : Nat} {enc : α → List Value} {T : Option Addr} {k tc : Nat} {l : List α} (h : LA W base sz enc T k tc l) (ht : Tw W W' o none) (ho : o < base) : LA W' base sz enc T k tc l :=
  ⟨h.at_.tw ht (fun a ha => ⟨by have := h.lo a ha; omega, by simp⟩), h.lo⟩
theorem LA.tw2 {α : Type} {W W' : World} {base sz o p : Nat} {enc : α → List Value} {T : Option Addr} {k tc : Nat} {l : List α} (h : LA W base sz enc T k tc l) (ht : Tw W W' o (some p)) (ho : o < base) (hp : p < base) : LA W' base sz enc T k tc l :=
  ⟨h.at_.tw ht (fun a ha => by have := h.lo a ha; exact ⟨by omega, fun e => by have := Option.some.inj e; omega⟩), h.lo⟩
theorem tw_ext2 {w W W' : World} {o p : Nat} (h : Ext w W) (ht : Tw W W' o (some p)) (ho : w.heap.size ≤ o) (hp : w.heap.size ≤ p) : Ext w W' :=
  ⟨ht.os.trans h.os, ht.tape.trans h.tape, ht.output.trans h.output, Nat.le_trans h.size ht.size, fun k hk => (ht.block k (Nat.lt_of_lt_of_le hk h.size) (by omega) (fun e => by have := Option.some.inj e; omega)).trans (h.block k hk)⟩
theorem LA.more {α : Type} {W : World} {base base' sz : Nat} {enc : α → List Value} {T : Option Addr} {k tc : Nat} {l : List α} (h : LA W base sz enc T k tc l) (hb : base' ≤ base) : LA W base' sz enc T k tc l := ⟨h.at_, fun a ha => Nat.le_trans hb (h.lo a ha)⟩
theorem LA.nil {α : Type} (W : World) (base sz : Nat) (enc : α → List Value) : LA W base sz enc none 0 0 ([] : List α) := ⟨At.nil _ _ _, fun a h => by cases h⟩
theorem Tw.set7 (W : World) (g : Nat) (u0 u1 u2 u3 u4 u5 u6 : Value) : Tw W (((((((W.setCell ⟨g, 0, none⟩ u0).setCell ⟨g, 1, none⟩ u1).setCell ⟨g, 2, none⟩ u2).setCell ⟨g, 3, none⟩ u3).setCell ⟨g, 4, none⟩ u4).setCell ⟨g, 5, none⟩ u5).setCell ⟨g, 6, none⟩ u6) g none :=
  ((((((Tw.set_ _ _ _ _ _).trans (Tw.set_ _ _ _ _ _)).trans (Tw.set_ _ _ _ _ _)).trans (Tw.set_ _ _ _ _ _)).trans (Tw.set_ _ _ _ _ _)).trans (Tw.set_ _ _ _ _ _)).trans (Tw.set_ _ _ _ _ _)
/-- What a round of the chunks reads. -/
def SChk (g bT i j : Nat) (v : Value) (x y : Int) (w' : World) : Prop := w'.cell? ⟨g, 5, none⟩ = some v ∧ w'.cell? ⟨bT, i, none⟩ = some (.int .i64 x) ∧ w'.cell? ⟨bT, j, none⟩ = some (.int .i64 y)
theorem SChk.ext {g bT i j : Nat} {v : Value} {x y : Int} {w w' : World} (h : SChk g bT i j v x y w) (he : Ext w w') : SChk g bT i j v x y w' := ⟨he.cell h.1, he.cell h.2.1, he.cell h.2.2⟩
theorem SChk.grown {g bT i j : Nat} {v : Value} {x y : Int} {w w' : World} {row : Option Nat} (h : SChk g bT i j v x y w) (hg : w.grownBy w' row) (h1 : some g ≠ row) (h2 : some bT ≠ row) : SChk g bT i j v x y w' := ⟨hg.cell h.1 h1, hg.cell h.2.1 h2, hg.cell h.2.2 h2⟩
/-- A value that is a table. -/
def TbV (W : World) (v : Value) (t : Tab) : Prop :=
  ∃ sA sn sc hA hn hc zA zn zc kA kn kc cA cn cc pA pn pc, v = .agg #[.int .i64 t.start, .slice sA sn sc, .slice hA hn hc, .slice zA zn zc, .slice kA kn kc, .slice cA cn cc, .slice pA pn pc] ∧ TabAt W sA sn sc hA hn hc zA zn zc kA kn kc cA cn cc pA pn pc t
theorem TbV.ext {W W' : World} {v : Value} {t : Tab} (h : TbV W v t) (he : Ext W W') : TbV W' v t := by
  obtain ⟨sA, sn, sc, hA, hn, hc, zA, zn, zc, kA, kn, kc, cA, cn, cc, pA, pn, pc, hv, ht⟩ := h
  exact ⟨sA, sn, sc, hA, hn, hc, zA, zn, zc, kA, kn, kc, cA, cn, cc, pA, pn, pc, hv, ht.ext he⟩
theorem TbV.none_ (W : World) : TbV W (.agg #[.int .i64 0, .slice none 0 0, .slice none 0 0, .slice none 0 0, .slice none 0 0, .slice none 0 0, .slice none 0 0]) noTab :=
  ⟨none, 0, 0, none, 0, 0, none, 0, 0, none, 0, 0, none, 0, 0, none, 0, 0, rfl, At.nil _ _ _, At.nil _ _ _, At.nil _ _ _, At.nil _ _ _, by simp [noTab], At.nil _ _ _, At.nil _ _ _⟩
/-- The same, and its lists lie in blocks from a place on. -/
def TbB (W : World) (B : Nat) (v : Value) (t : Tab) : Prop :=
  ∃ sA sn sc hA hn hc zA zn zc kA kn kc cA cn cc pA pn pc, v = .agg #[.int .i64 t.start, .slice sA sn sc, .slice hA hn hc, .slice zA zn zc, .slice kA kn kc, .slice cA cn cc, .slice pA pn pc] ∧ TabAt W sA sn sc hA hn hc zA zn zc kA kn kc cA cn cc pA pn pc t ∧
    ∀ a : Addr, (sA = some a ∨ hA = some a ∨ zA = some a ∨ kA = some a ∨ cA = some a ∨ pA = some a) → B ≤ a.block
theorem TbB.tbv {W : World} {B : Nat} {v : Value} {t : Tab} (h : TbB W B v t) : TbV W v t := by
  obtain ⟨sA, sn, sc, hA, hn, hc, zA, zn, zc, kA, kn, kc, cA, cn, cc, pA, pn, pc, hv, ht, _⟩ := h
  exact ⟨sA, sn, sc, hA, hn, hc, zA, zn, zc, kA, kn, kc, cA, cn, cc, pA, pn, pc, hv, ht⟩
theorem TbB.none_ (W : World) (B : Nat) : TbB W B (.agg #[.int .i64 0, .slice none 0 0, .slice none 0 0, .slice none 0 0, .slice none 0 0, .slice none 0 0, .slice none 0 0]) noTab :=
  ⟨none, 0, 0, none, 0, 0, none, 0, 0, none, 0, 0, none, 0, 0, none, 0, 0, rfl, ⟨At.nil _ _ _, At.nil _ _ _, At.nil _ _ _, At.nil _ _ _, by simp [noTab], At.nil _ _ _, At.nil _ _ _⟩, fun a h => by rcases h with h | h | h | h | h | h <;> cases h⟩
/-- What readTable and ReadTable give. -/
def RtGives (w : World) (t : Tab) (p f : Int) (e : Ending) (w' : World) : Prop := ∃ v, e = .returned (.tuple #[v, .int .i64 p, .int .i64 f]) ∧ TbB w' w.heap.size v t ∧ Ext w w'
theorem tw_ext' {w W W' : World} {o : Nat} (h : Ext w W) (ht : Tw W W' o none) (ho : w.heap.size ≤ o) : Ext w W' :=
  ⟨ht.os.trans h.os, ht.tape.trans h.tape, ht.output.trans h.output, Nat.le_trans h.size ht.size, fun k hk => (ht.block k (Nat.lt_of_lt_of_le hk h.size) (by omega) (by simp)).trans (h.block k hk)⟩
end Go.Proofs.Ytkdmfkpkelnheaa
