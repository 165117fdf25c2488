/- Walk: the fault of boxes (program's counter). Conditions as stated. -/
import Derived.Test.YtlonhkjplijlcaaMwf34
import Derived.Test.YtlonhkjplijlcaaMwf01
namespace Go.Proofs.Ytlonhkjplijlcaa
open Go.RowKit
/-- The kinds and the data of boxes are not longer than so many bytes. -/
def bndL (D : Nat) : List BoxT → Prop
  | [] => True
  | .mk k _ d l :: r => k.length ≤ D ∧ d.length ≤ D ∧ bndL D l ∧ bndL D r
theorem bndL_get {D : Nat} : ∀ {l : List BoxT} {k : Nat} (_ : bndL D l) (hk : k < l.length), l[k].kind.length ≤ D ∧ l[k].data.length ≤ D ∧ bndL D l[k].kids
  | [], k, _, hk => absurd hk (Nat.not_lt_zero _)
  | .mk a f d l :: r, 0, h, _ => by rw [bndL] at h; exact ⟨h.1, h.2.1, h.2.2.1⟩
  | .mk a f d l :: r, k + 1, h, hk => by
    rw [bndL] at h
    exact bndL_get (l := r) (k := k) h.2.2.2 (by simpa using hk)
theorem fauL_count : ∀ (l : List BoxT) (dep c m : Nat), fauL l dep c = (0, m) → c ≤ 2000 → m ≤ 2000
  | [], dep, c, m, h, hc => by rw [fauL] at h; injection h with _ h; omega
  | .mk k f d l :: r, dep, c, m, h, hc => by
    obtain ⟨h1, _, m', h3, h4⟩ := fauL_ok h
    exact fauL_count r dep m' m h4 (fauL_count l _ _ m' h3 (by omega))
theorem fauL_mk (x : BoxT) (r : List BoxT) (dep c : Nat) : fauL (x :: r) dep c = if 2000 < c + 1 ∨ 8 ≤ dep then (2, c + 1)
    else if elB x.kind x.form x.data x.kids.length r.isEmpty ≠ 0 then (elB x.kind x.form x.data x.kids.length r.isEmpty, c + 1)
    else if (fauL x.kids (dep + 1) (c + 1)).1 ≠ 0 then fauL x.kids (dep + 1) (c + 1)
    else fauL r dep (fauL x.kids (dep + 1) (c + 1)).2 := by cases x; rw [fauL]; rfl
theorem tw_extB {w W W' : World} {o : Nat} (h : Ext w W) (ht : Tw W W' o none) (ho : w.heap.size ≤ o) : Ext w W' :=
  ⟨ht.os.trans h.os, ht.tape.trans h.tape, ht.output.trans h.output, Nat.le_trans h.size ht.size, fun k hk => (ht.block k (Nat.lt_of_lt_of_le hk h.size) (by omega) (by simp)).trans (h.block k hk)⟩
theorem isKindL (k : List UInt8) (hk : k.length ≤ maxLen) (w : World) : Calls Try.prog 97 #[.string ⟨k.toArray⟩] w fun e w' => e = .returned (.bool (isKindB k)) ∧ w = w' := by
  have := isKind_any ⟨k.toArray⟩ w (by show k.toArray.size ≤ maxLen; simpa using hk)
  simpa using this
end Go.Proofs.Ytlonhkjplijlcaa
