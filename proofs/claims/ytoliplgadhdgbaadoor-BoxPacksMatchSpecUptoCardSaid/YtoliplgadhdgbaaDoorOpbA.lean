/- Boxes in an argument, opened. Conditions as stated. -/
import Derived.Test.YtoliplgadhdgbaaDoorBcbA
import Derived.Test.YtoliplgadhdgbaaDoorOpenS
import Derived.Test.YtoliplgadhdgbaaDoorOpens2
import Derived.Test.YtoliplgadhdgbaaDoorLawG
namespace Go.Proofs.YtoliplgadhdgbaaDoor
open Go.ChangeShapes Go.WideShapes Go.ChangeAt Go.RowKit Go.Joins Go.Deep
section
variable {H : Type} {enc : TypeId × Value → H} {W : World} {base : Nat}
theorem fldBx {t : TypeId} {n c : Nat} {v : Value} {cs rest : List Value} {xs : List (DataW H × List MemPlace)} {i : Nat} (hc : Tryd.prog.cellsOf t = 1) (hd : cs.drop c = v :: rest) {y : DataW H × List MemPlace} (hx : xs[i]? = some y)
    (h : DataW.trod enc Tryd.prog W 0 (fun _ => true) true n t ((cs.drop c).take (Tryd.prog.cellsOf t)) = xs[i]?) : DataW.trod enc Tryd.prog W 0 (fun _ => true) true n t [v] = some y := by
  rw [hc, hd, hx] at h; exact h
theorem bndL_pairs {D : Nat} : ∀ (q : List (BoxH × BoxT)), (∀ x ∈ q, x.2.kind.length ≤ D ∧ x.2.data.length ≤ D ∧ bndL D x.2.kids) → bndL D (q.map Prod.snd)
  | [], _ => by rw [List.map_nil, bndL]; trivial
  | x :: r, h => by
    have h1 := h x (List.mem_cons_self ..)
    have h2 := bndL_pairs r (fun y hy => h y (List.mem_cons_of_mem _ hy))
    obtain ⟨y, u⟩ := x
    cases u
    rw [List.map_cons, bndL]
    exact ⟨h1.1, h1.2.1, h1.2.2, h2⟩
theorem weightsAll_mem {P : Program} {e : TypeId} : ∀ {ds : List (DataW H)} {d : DataW H}, d ∈ ds → ∀ x ∈ d.weights P e, x ∈ DataW.weightsAll P e ds
  | [], d, h, _, _ => by cases h
  | a :: r, d, h, x, hx => by
    rw [DataW.weightsAll, List.mem_append]
    rcases List.mem_cons.1 h with h | h
    · subst h; exact .inl hx
    · exact .inr (weightsAll_mem h x hx)
def OpbStmt (enc : TypeId × Value → H) (W : World) (s : Nat) : Prop := ∀ {fuel : Nat} {A : Option Addr} {n c : Nat} {d : DataW H} {p : List MemPlace}, SizeOf.sizeOf d ≤ s →
  DataW.trod enc Tryd.prog W 0 (fun _ => true) true fuel 22 [.slice A n c] = some (d, p) → (d.weights Tryd.prog 22).all (· ≤ reachBytes) = true →
  ∃ l, BxsAt W (fun _ => True) A n c l ∧ bndL 140737488355328 l
set_option maxRecDepth 100000 in
set_option maxHeartbeats 1000000 in
theorem opb_step (s : Nat) (ih : ∀ s', s' < s → OpbStmt enc W s') : OpbStmt enc W s := by
  intro fuel A n c d p hs hf hw
  have hC : Tryd.prog.cellsOf 39 = 4 := by kernel_rfl
  have C0 : Tryd.prog.cellsOf 9 = 1 := by kernel_rfl
  have C1 : Tryd.prog.cellsOf 3 = 1 := by kernel_rfl
  have C2 : Tryd.prog.cellsOf 23 = 1 := by kernel_rfl
  have C3 : Tryd.prog.cellsOf 22 = 1 := by kernel_rfl
  have CB : Tryd.prog.cellsOf 5 = 1 := by kernel_rfl
  have BB : Tryd.prog.bytesOf 5 = 1 := by kernel_rfl
  rcases open_slice Tryd.underlying22 hf with ⟨hcs, hx⟩ | ⟨a, len, cap, m, k, D, Pl, hcs, _, hl, hm, hmm, hx, hi⟩
  · simp at hcs
    obtain ⟨rfl, rfl, rfl⟩ := hcs
    exact ⟨[], BxsAt.nil _ _, by rw [bndL]; trivial⟩
  · simp at hcs
    obtain ⟨rfl, rfl, rfl⟩ := hcs
    simp only [Prod.mk.injEq] at hx
    simp only [if_true] at hmm
    subst hmm
    obtain ⟨hx, _⟩ := hx
    subst hx
    have key : ∀ i, i < n → ∃ cs' : List Value, (∀ j, j < 4 → W.cell? ((a.add (i * 4)).add j) = cs'[j]?) ∧ ∃ q : BoxH × BoxT, eBx q.1 = cs' ∧ (BxHd W (fun _ => True) q.1 q.2 ∧ BxsAt W (fun _ => True) q.1.kA q.1.kn q.1.kc q.2.kids) ∧ (q.2.kind.length ≤ 140737488355328 ∧ q.2.data.length ≤ 140737488355328 ∧ bndL 140737488355328 q.2.kids) := by
      intro i hin
      obtain ⟨cs', hc, ht'⟩ := hi i (by omega)
      rw [hC] at hc
      obtain ⟨_, hcl, hat⟩ := World.cells?_some hc
      have hmem : D i ∈ (List.range n).map D := List.mem_map.2 ⟨i, List.mem_range.2 hin, rfl⟩
      have hsz : SizeOf.sizeOf (D i) < s := by
        have h1 := List.sizeOf_lt_of_mem hmem
        simp only [DataW.slice.sizeOf_spec] at hs
        omega
      have hwd : ((D i).weights Tryd.prog 39).all (· ≤ reachBytes) = true := by
        rw [List.all_eq_true] at hw ⊢
        intro x hx
        refine hw x ?_
        simp only [DataW.weights, Tryd.underlying22]
        exact List.mem_cons_of_mem _ (List.mem_append.2 (.inl (weightsAll_mem hmem x hx)))
      obtain ⟨xs, k', _, hx, _, hlen, hg⟩ := DataW.trod_struct Tryd.underlying39 ht'
      match cs', hcl, xs, hlen with
      | [c0, c1, c2, c3], _, [y0, y1, y2, y3], _ =>
        have hd : D i = .agg [y0.1, y1.1, y2.1, y3.1] := (congrArg Prod.fst hx)
        have hwe : (DataW.weightsEach Tryd.prog [9, 3, 23, 22] [y0.1, y1.1, y2.1, y3.1]).all (· ≤ reachBytes) = true := by
          rw [hd] at hwd
          simp only [DataW.weights, Tryd.underlying39] at hwd
          exact hwd
        have hs3 : SizeOf.sizeOf y3.1 < s := by
          rw [hd] at hsz
          simp only [DataW.agg.sizeOf_spec, List.cons.sizeOf_spec] at hsz
          omega
        obtain ⟨ks, e0, ey0, _⟩ := DataW.trod_string Tryd.underlying9 (fldBx (i := 0) (c := 0) C0 rfl rfl (hg 0 _ rfl))
        injection e0 with e0 _
        subst e0
        obtain ⟨fm, rfl, _⟩ := fldInt Tryd.underlying3 (fldBx (i := 1) (c := 1) C1 rfl rfl (hg 1 _ rfl))
        have t2 := fldBx (i := 2) (c := 2) C2 rfl rfl (hg 2 _ rfl)
        obtain ⟨dA, dn, dc, rfl⟩ := fldSlice Tryd.underlying23 t2
        obtain ⟨bs, hbs, hbt⟩ := open_bytesQ Tryd.underlying23 Tryd.underlying5 CB t2
        have t3 := fldBx (i := 3) (c := 3) C3 rfl rfl (hg 3 _ rfl)
        obtain ⟨kA, kn, kc, rfl⟩ := fldSlice Tryd.underlying22 t3
        have w3 : (y3.1.weights Tryd.prog 22).all (· ≤ reachBytes) = true := by
          rw [List.all_eq_true] at hwe ⊢
          intro x hx
          exact hwe x (DataW.weights_mem_each (j := 3) rfl rfl x hx)
        obtain ⟨kl, hk1, hk2⟩ := ih _ hs3 (Nat.le_refl _) t3 w3
        have b2 := reach_of Tryd.underlying23 hwe 2 rfl rfl hbt hbs.le
        rw [BB] at b2
        have b0 : ks.data.toList.length ≤ 140737488355328 := by
          rw [List.all_eq_true] at hwe
          have h1 : ks.data.toList.length ≤ reachBytes := of_decide_eq_true (hwe ks.data.toList.length (DataW.weights_mem_each (j := 0) rfl rfl _ (by rw [congrArg Prod.fst ey0]; simp [DataW.weights])))
          exact Nat.le_trans h1 (by decide)
        refine ⟨_, hat, (⟨ks.data.toList, fm, dA, dn, dc, kA, kn, kc⟩, .mk ks.data.toList fm bs kl), ?_, ⟨⟨rfl, rfl, hbs, fun _ _ => trivial⟩, hk1⟩, b0, ?_, hk2⟩
        · simp [eBx]
        · show bs.length ≤ _
          rw [hbs.len]; omega
    rcases Nat.eq_zero_or_pos n with h0 | h0
    · subst h0
      exact ⟨[], .mk [] [] ⟨rfl, Nat.zero_le _, hm, fun h => (by cases h), fun k x hx => by simp at hx⟩ (fun _ _ => trivial) rfl (fun i y x hy _ => by simp at hy) (fun i y x hy _ => by simp at hy), by rw [bndL]; trivial⟩
    · obtain ⟨b, off, spot⟩ := a
      have hsp : spot = none := by
        obtain ⟨cs', h1, q, h2, _⟩ := key 0 h0
        have h3 := h1 0 (by omega)
        rw [← h2] at h3
        have h4 : (((⟨b, off, spot⟩ : Addr).add (0 * 4)).add 0) = ⟨b, off, spot⟩ := by rw [Nat.zero_mul]; unfold Addr.add; rfl
        rw [h4] at h3
        exact cell_spot h3
      subst hsp
      obtain ⟨q, q1, q2⟩ := At.of_key (w := W) (sz := 4) (enc := fun x : BoxH × BoxT => eBx x.1) (good := fun q : BoxH × BoxT => (BxHd W (fun _ => True) q.1 q.2 ∧ BxsAt W (fun _ => True) q.1.kA q.1.kn q.1.kc q.2.kids) ∧ (q.2.kind.length ≤ 140737488355328 ∧ q.2.data.length ≤ 140737488355328 ∧ bndL 140737488355328 q.2.kids)) (b := b) (off := off) hl hm (fun i hin => by
        obtain ⟨cs', g1, x, he, hx1, hx2⟩ := key i hin
        refine ⟨x, ⟨hx1, hx2⟩, fun j u hu => ?_⟩
        have hj : j < 4 := (List.getElem?_eq_some_iff.1 hu).1
        have := g1 j hj
        rw [add_of_add, Addr.add_lit] at this
        rw [show off + i * 4 + j = off + (i * 4 + j) by omega, this, ← he, hu])
      have hm1 : At W 4 eBx (some ⟨b, off, none⟩) n m (q.map Prod.fst) := At.map1 (en := fun x : BoxH × BoxT => eBx x.1) Prod.fst (fun _ => rfl) q1
      have hget : ∀ (i : Nat) (y : BoxH) (x : BoxT), (q.map Prod.fst)[i]? = some y → (q.map Prod.snd)[i]? = some x → (y, x) ∈ q := by
        intro i y x hy hx
        rw [List.getElem?_map] at hy hx
        cases hq : q[i]? with
        | none => rw [hq] at hy; cases hy
        | some z =>
          rw [hq] at hy hx
          simp only [Option.map_some, Option.some.injEq] at hy hx
          subst hy hx
          exact List.mem_of_getElem? hq
      exact ⟨q.map Prod.snd, .mk _ _ hm1 (fun _ _ => trivial) (by simp) (fun i y x hy hx => (q2 _ (hget i y x hy hx)).1.1) (fun i y x hy hx => (q2 _ (hget i y x hy hx)).1.2), bndL_pairs q (fun x hx => (q2 x hx).2)⟩
theorem opb_any (s : Nat) : OpbStmt enc W s := by
  induction s using Nat.strongRecOn with
  | _ s ih => exact opb_step s ih
set_option maxRecDepth 100000 in
theorem open_boxes {v : Value} {d : DataW H} {p : List MemPlace} (hv : Value.okWide Tryd.prog W .any base 22 v) (h : DataW.Trod enc Tryd.prog W 0 (fun _ => true) true 22 v d p) (hs : (d.weights Tryd.prog 22).all (· ≤ reachBytes) = true) :
    ∃ A n c l, v = .slice A n c ∧ BxsAt W (fun _ => True) A n c l ∧ bndL 140737488355328 l := by
  obtain ⟨A, n, c, rfl⟩ := okWide_slice Tryd.underlying22 hv
  obtain ⟨fuel, hf⟩ := h
  obtain ⟨l, h1, h2⟩ := opb_any _ (Nat.le_refl _) (by simpa [Value.cells] using hf) hs
  exact ⟨A, n, c, l, rfl, h1, h2⟩
end
end Go.Proofs.YtoliplgadhdgbaaDoor
