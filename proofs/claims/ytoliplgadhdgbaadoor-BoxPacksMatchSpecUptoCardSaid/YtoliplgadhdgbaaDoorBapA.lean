/- Walk: appendBox (program). Conditions as stated. -/
import Derived.Test.YtoliplgadhdgbaaDoorBszA
import Derived.Test.YtoliplgadhdgbaaDoorTbyA
import Derived.Test.YtoliplgadhdgbaaDoorHeldV
import Derived.Lib.AppendStr
namespace Go.Proofs.YtoliplgadhdgbaaDoor
open Go.RowKit
theorem strCells_mk (k : List UInt8) : Go.Lib.strCells ⟨k.toArray⟩ = k.flatMap e8 := by
  rw [flat8]; simp [Go.Lib.strCells]
theorem step_append_str {P : Program} {w : World} {ops : Array Oper} {o : Oper} {a : Act} {K : Act → World → Prop} {Q : Exit → Act → World → Prop} {E : Prop} (hgd : o.guard = none) (sl x : Operand) (t u : TypeId)
    (ho : o.op = .call { callee := .builtin .append, args := #[sl, x], argTypes := #[t, u] })
    (base : Nat) (e : TypeId) (i : TypeInfo) (ht : P.underlying t = some (.slice e)) (hu : P.underlying u = some .string) (hi : P.info? e = some i) (hz : i.zero = some (.int .u8 0))
    (hsize : i.size = 1) (hby : i.bytes = 1)
    (v : Value) (xs : List UInt8) (hs : a.eval sl = v) (hown : Own w base e 1 e8 v xs) (k : List UInt8) (hx : a.eval x = .string ⟨k.toArray⟩)
    (h63 : xs.length + k.length ≤ maxLen) (hbytes : xs.length + k.length ≤ 140737488355328) (hbase : base ≤ w.heap.size)
    (h : ∀ v' w', Own w' base e 1 e8 v' (xs ++ k) → w.grownBy w' v.ownBlock → (v'.ownBlock = v.ownBlock ∨ ∃ g, v'.ownBlock = some g ∧ w.heap.size ≤ g) → K (a.put o.dst v') w') :
    if Region.wanted o (yielded ops a.tmps) = true then Oper.wp P o a w K Q else E := by
  have hw : Region.wanted o (yielded ops a.tmps) = true := by simp [Region.wanted, hgd]
  rw [if_pos hw]
  have hsz : (⟨k.toArray⟩ : ByteArray).size = k.length := by show k.toArray.size = _; simp
  obtain ⟨v', w', hr, h2, h3, h4⟩ := Go.Lib.run_append_own_string (P := P) (w := w) base t u o.type e i ht hu hi hz hsize hby v xs.length _ hown ⟨k.toArray⟩ (by rw [hsz]; exact h63) (by rw [hsz]; exact hbytes) hbase
  unfold Oper.wp execOp
  simp only [ho, resolve, invoke, builtin, Sem.run_bind, Sem.run_pure, Result.andThen_ok, List.map_toArray, List.map_cons, List.map_nil, hs, hx, hr]
  refine h v' w' ?_ h3 ?_
  · unfold Own
    rw [List.length_append, List.flatMap_append, ← strCells_mk k, ← hsz]
    exact h2
  · have hu' : w.ownsRow base e 1 v xs.length (xs.flatMap e8) := by unfold Own at hown; exact hown
    rcases hu'.2 with ⟨rfl, hn⟩ | ⟨g, cap, cur, rfl, hbg, hg, hnc, hcm, hcs, htake⟩
    · have hx0 : xs = [] := List.eq_nil_of_length_eq_zero hn
      subst hx0
      obtain ⟨v2, w2, hr2, k2, _, _⟩ := Go.Lib.run_append_own_string (P := P) (w := w) w.heap.size t u o.type e i ht hu hi hz hsize hby (.slice none 0 0) 0 _ (World.ownsRow_nil w w.heap.size e 1) ⟨k.toArray⟩ (by rw [hsz]; simpa using h63) (by rw [hsz]; simpa using hbytes) (Nat.le_refl _)
      rw [hr] at hr2
      injection hr2 with e1 e2
      subst e1
      rcases k2.2 with ⟨rfl, _⟩ | ⟨g, cap, cur, rfl, hbg, _⟩
      · exact .inl rfl
      · exact .inr ⟨g, rfl, hbg⟩
    · have hxl : (xs.flatMap e8).length = xs.length := by rw [flat8]; simp
      by_cases hroom : xs.length + (⟨k.toArray⟩ : ByteArray).size ≤ cap
      · have hr2 := Go.Lib.run_append_room_string (P := P) w t u o.type e i ht hu hi hsize g xs.length cap cur hg ⟨k.toArray⟩ hroom (by rw [hsz]; simp only [maxLen] at h63; omega)
        rw [hr] at hr2
        injection hr2 with e1 e2
        subst e1
        exact .inl rfl
      · have holds : ∀ j u, (xs.flatMap e8)[j]? = some u → w.cell? ((⟨g, 0, none⟩ : Addr).add j) = some u := hu'.cells (g := g) rfl
        have hr2 := Go.Lib.run_append_grow_string (P := P) w t u o.type e i (.int .u8 0) ht hu hi hz ⟨g, 0, none⟩ xs.length cap _ (by rw [hsize]; simpa using hxl) holds ⟨k.toArray⟩ (by omega) (by rw [hsz]; simp only [maxLen] at h63; omega) (by rw [hby]; exact growslice_fits (by rw [hsz]; omega) (by rw [hsz]; omega))
        rw [hr] at hr2
        injection hr2 with e1 e2
        subst e1
        exact .inr ⟨_, rfl, Nat.le_refl _⟩
theorem bytT_eq (x : BoxT) : bytT x = headB x.kind x.form (sizeT x) ++ x.data ++ bytL x.kids := by cases x; rw [bytT, sizeT]; rfl
end Go.Proofs.YtoliplgadhdgbaaDoor
