/- Several texts in one: Walks: askTime and bufferAt of the program's watcher. Conditions as stated; A drawn region whose last operation writes a cell that an elder one loads. Conditions: as stated. -/
import Derived.Test.YtfelgolfebhmkaaDoorMtm11
import Derived.Test.YtfelgolfebhmkaaDoorMtm01
import Derived.Test.YtfelgolfebhmkaaDoorMtm02
import Derived.Test.YtfelgolfebhmkaaDoorMtm00
import Derived.Deep.RegionHeld3
namespace Go.Proofs.YtfelgolfebhmkaaDoor
open Go.RowKit
section
variable {lA : Option Addr} {ln lc : Nat} {sA : Option Addr} {sn sc : Nat} {qA : Option Addr} {qn qc : Nat} {d0 s0 r0 f0 i0 k0 l0 t0 lo0 hi0 a0 x0 y0 z0 : Int} {ch asd arr st ld : Value} {beg en at_ buf stl : Int} {pl bg : Bool} {g : Nat} {L : List Int} {w : World}
set_option maxRecDepth 100000 in
set_option maxHeartbeats 2000000 in
theorem askTime_any (h : Blk w g 77 #[.slice lA ln lc, .slice sA sn sc, .slice qA qn qc, .int .i64 d0, .int .i64 s0, .int .i64 r0, .int .i64 f0, .int .i64 i0, .int .i64 k0, .int .i64 l0, .int .i64 t0, .int .i64 lo0, .int .i64 hi0, .int .i64 a0, .int .i64 x0, .int .i64 y0, .int .i64 z0, ch, asd, arr, .int .i64 beg, st, .int .i64 en, ld, .int .i64 at_, .int .i64 buf, .bool pl, .bool bg, .int .i64 stl]) (hL : At w 1 e64 lA ln lc L) {n : Nat} (hn : n < ln) (ha : 0 ≤ at_ ∧ at_ ≤ 1000000000000000000) (hb : 0 ≤ buf ∧ buf ≤ 1000000000000) (hx : 0 ≤ L.getD n 0 ∧ L.getD n 0 ≤ 1000000000) (hf : 0 ≤ f0 ∧ f0 ≤ 1000000000) {sts : List (Int × Int)} :
    Calls Tryd.prog 29 #[.pointer (some ⟨g, 0, none⟩), .int .i64 (n : Int)] w fun e w' => e = .returned (.int .i64 (askT f0 (L.getD n 0) ⟨at_, buf, pl, bg, stl, beg, sts⟩)) ∧ Ext w w' := by
  have c0 := h.cell 0
  have c6 := h.cell 6
  have c24 := h.cell 24
  have c25 := h.cell 25
  have c26 := h.cell 26
  have hbn := hL.bound
  obtain ⟨b, off, rfl, _⟩ := hL.addr (by omega)
  have e0 := hL.num hn
  clear h hL
  obtain ⟨ha1, ha2⟩ := ha
  obtain ⟨hb1, hb2⟩ := hb
  obtain ⟨hx1, hx2⟩ := hx
  obtain ⟨hf1, hf2⟩ := hf
  generalize L.getD n 0 = x at *
  have i0 : (0 : Int) ≤ (n : Int) := by omega
  have i1 : (n : Int) < (ln : Int) := by omega
  cases pl with
  | false =>
    have hv : askT f0 x ⟨at_, buf, false, bg, stl, beg, sts⟩ = at_ := by unfold askT; simp
    rw [hv]
    clear hv
    go_enter Tryd.func29, Tryd.ntmps29
    go_wp2
    go_ret
    exact ⟨rfl, Ext.refl _⟩
  | true =>
    have hv : askT f0 x ⟨at_, buf, true, bg, stl, beg, sts⟩ = at_ + min buf (max 0 (buf + x - f0)) := by unfold askT; simp
    have HV := hide hv
    clear hv
    have w1 : IntKind.i64.wrap (buf + x) = buf + x := by rw [IntKind.wrap_i64]; omega
    have w2 : IntKind.i64.wrap (buf + x - f0) = buf + x - f0 := by rw [IntKind.wrap_i64]; omega
    have w3 : IntKind.i64.wrap (at_ + min buf (max 0 (buf + x - f0))) = at_ + min buf (max 0 (buf + x - f0)) := by rw [IntKind.wrap_i64]; omega
    go_enter Tryd.func29, Tryd.ntmps29
    go_wp2_with fail
    go_quiet (fail)
    go_wp2_with fail
    go_ret
    exact ⟨ret_int HV.out.symm, Ext.drewN _ _⟩
set_option maxRecDepth 100000 in
set_option maxHeartbeats 2000000 in
theorem bufferAt_any (h : Blk w g 77 #[.slice lA ln lc, .slice sA sn sc, .slice qA qn qc, .int .i64 d0, .int .i64 s0, .int .i64 r0, .int .i64 f0, .int .i64 i0, .int .i64 k0, .int .i64 l0, .int .i64 t0, .int .i64 lo0, .int .i64 hi0, .int .i64 a0, .int .i64 x0, .int .i64 y0, .int .i64 z0, ch, asd, arr, .int .i64 beg, st, .int .i64 en, ld, .int .i64 at_, .int .i64 buf, .bool pl, .bool bg, .int .i64 stl]) {t : Int} (ha : 0 ≤ at_ ∧ at_ ≤ 1000000000000000000) (hb : 0 ≤ buf ∧ buf ≤ 1000000000000) (ht : 0 ≤ t ∧ t ≤ 1000000000000000000) {sts : List (Int × Int)} :
    Calls Tryd.prog 30 #[.pointer (some ⟨g, 0, none⟩), .int .i64 t] w fun e w' => e = .returned (.int .i64 (bufT ⟨at_, buf, pl, bg, stl, beg, sts⟩ t)) ∧ Ext w w' := by
  have c24 := h.cell 24
  have c25 := h.cell 25
  have c26 := h.cell 26
  clear h
  obtain ⟨ha1, ha2⟩ := ha
  obtain ⟨hb1, hb2⟩ := hb
  obtain ⟨ht1, ht2⟩ := ht
  cases pl with
  | false =>
    have hv : bufT ⟨at_, buf, false, bg, stl, beg, sts⟩ t = buf := by unfold bufT; simp
    rw [hv]
    clear hv
    go_enter Tryd.func30, Tryd.ntmps30
    go_wp2
    go_ret
    exact ⟨rfl, Ext.refl _⟩
  | true =>
    have hv : bufT ⟨at_, buf, true, bg, stl, beg, sts⟩ t = max 0 (buf - (t - at_)) := by unfold bufT; simp
    have HV := hide hv
    clear hv
    have w1 : IntKind.i64.wrap (t - at_) = t - at_ := by rw [IntKind.wrap_i64]; omega
    have w2 : IntKind.i64.wrap (buf - (t - at_)) = buf - (t - at_) := by rw [IntKind.wrap_i64]; omega
    go_enter Tryd.func30, Tryd.ntmps30
    go_wp2_with fail
    go_quiet (fail)
    go_wp2_with fail
    go_ret
    exact ⟨ret_int HV.out.symm, Ext.drewN _ _⟩
end
section
variable {P : Program} {ops : Array Oper} {Q : Exit → Act → World → Prop} {md : Region.Mode} {S : World → Prop} {z : Nat}
def AnyZ (P : Program) (md : Region.Mode) (ops : Array Oper) (Q : Exit → Act → World → Prop) (S : World → Prop) (z : Nat) : Nat → Array Bool → Act → World → Prop
  | 0, L, a, w => Region.ready md ops L = [] ∧ Q .normal a w
  | n + 1, L, a, w => (Region.ready md ops L = [] → Q .normal a w) ∧
    ∀ i ∈ Region.ready md ops L, wpOp P ops Q i (fun a' w' => ((L.setIfInBounds i true).getD z true = false → S w') ∧ AnyZ P md ops Q S z n (L.setIfInBounds i true) a' w') a w
theorem AnyZ.any : ∀ (n : Nat) (L : Array Bool) (a : Act) (w : World), AnyZ P md ops Q S z n L a w → wpAny P md ops Q n L a w
  | 0, _, _, _, h => h
  | n + 1, _, _, _, ⟨h0, h1⟩ => ⟨h0, fun i hi => wpOp_mono (fun a' w' h' => AnyZ.any n _ a' w' h'.2) (h1 i hi)⟩
theorem AnyZ.first {i : Nat} {oi oz : Oper} {v : Value} (hi : ops[i]? = some oi) (hz : ops[z]? = some oz) (hzi : ∃ e ∈ oz.after, Region.binds md e = true ∧ e.on = i) (hne : z ≠ i)
    (hsel : ∀ (j : Nat) (o : Oper) cs b, ops[j]? = some o → o.op ≠ .select cs b)
    (hQ : ∀ c a w, Q (.panic c) (a.put oi.dst v) w → Q (.panic c) a w) :
    ∀ (n : Nat) (L : Array Bool) (a : Act) (w : World),
      (∀ j oj, ops[j]? = some oj → j ≠ i → L.getD j true = false → (∀ e ∈ oj.after, Region.binds md e = true → e.on ≠ i) → oi.apart ops oj = true) →
      i ∈ Region.ready md ops L → L.getD z true = false → YieldsIf P ops S oi v a → S w →
      AnyZ P md ops Q S z n (L.setIfInBounds i true) (a.put oi.dst v) w → AnyZ P md ops Q S z (n + 1) L a w
  | 0, L, a, w, _, hr, _, hy, hS, H => by
    refine ⟨fun h => absurd hr (by simp [h]), fun j hj => ?_⟩
    by_cases hji : j = i
    · subst hji
      exact hy.wpOp hi hS ⟨fun _ => hS, H⟩
    · exact absurd (ready_mono hj hji) (by simp [H.1])
  | n + 1, L, a, w, hf, hr, hL, hy, hS, H => by
    refine ⟨fun h => absurd hr (by simp [h]), fun j hj => ?_⟩
    by_cases hji : j = i
    · subst hji
      exact hy.wpOp hi hS ⟨fun _ => hS, H⟩
    obtain ⟨hu, oj, hoj, hall⟩ := mem_ready.1 hj
    have hin : ∀ e ∈ oj.after, Region.binds md e = true → e.on ≠ i := fun e he hb hq => by
      have hdone := hall e he hb
      have hopen := (mem_ready.1 hr).1
      rw [hq] at hdone
      by_cases hs : i < L.size
      · simp [hs] at hdone hopen
        rw [hdone] at hopen
        cases hopen
      · simp [hs] at hdone
    have hjz : j ≠ z := fun h => by
      subst h
      obtain ⟨e, he, hb, hq⟩ := hzi
      rw [hz] at hoj
      injection hoj with hoj
      subst hoj
      exact hin e he hb hq
    have hLz : (L.setIfInBounds j true).getD z true = false := by rw [getD_set_ne true hjz]; exact hL
    have hLz2 : ((L.setIfInBounds i true).setIfInBounds j true).getD z true = false := by
      rw [getD_set_ne true hjz, getD_set_ne true (Ne.symm hne)]; exact hL
    have st := wpOp_putIf hoj (hf j oj hoj hji hu hin) (fun cs b => hsel i oi cs b hi) (fun cs b => hsel j oj cs b hoj) hQ hy (H.2 j (ready_mono hj hji))
    refine wpOp_mono (fun a' w' ⟨hy', hS', hr'⟩ => ?_) st
    have hSw := hS' hLz2
    refine ⟨fun _ => hSw, AnyZ.first hi hz hzi hne hsel hQ n _ a' w' (fun k ok hk hki hun hno => hf k ok hk hki ?_ hno) (ready_mono hr (Ne.symm hji)) hLz hy' hSw ?_⟩
    · by_cases hjk : j = k
      · subst hjk; exact hu
      · rwa [getD_set_ne true hjk] at hun
    · rw [Array.setIfInBounds_comm _ _ hji]
      exact hr'
theorem AnyZ.take {i : Nat} {oi oz : Oper} {v : Value} {n : Nat} {L : Array Bool} {a : Act} {w : World} (hi : ops[i]? = some oi) (hz : ops[z]? = some oz)
    (hzi : (oz.after.any fun e => Region.binds md e && e.on == i) = true) (hne : (z == i) = false) (hs : Region.noSelect ops = true) (hf : Region.free md ops L i = true) (hr : (Region.ready md ops L).contains i = true) (hLz : L.getD z true = false)
    (hQ : ∀ c a w, Q (.panic c) (a.put oi.dst v) w → Q (.panic c) a w) (hy : YieldsIf P ops S oi v a) (hS : S w)
    (h : AnyZ P md ops Q S z n (L.setIfInBounds i true) (a.put oi.dst v) w) : AnyZ P md ops Q S z (n + 1) L a w :=
  AnyZ.first hi hz (by
    obtain ⟨e, he, h⟩ := Array.any_eq_true'.1 hzi
    simp only [Bool.and_eq_true, beq_iff_eq] at h
    exact ⟨e, he, h⟩) (by simpa using hne) (Region.noSelect_spec hs) hQ n L a w (Region.free_spec hi hf) (by simpa using hr) hLz hy hS h
theorem AnyZ.one {i : Nat} {n : Nat} {L : Array Bool} {a : Act} {w : World} (hr : Region.ready md ops L = [i])
    (h : wpOp P ops Q i (fun a' w' => ((L.setIfInBounds i true).getD z true = false → S w') ∧ AnyZ P md ops Q S z n (L.setIfInBounds i true) a' w') a w) : AnyZ P md ops Q S z (n + 1) L a w :=
  ⟨fun h0 => absurd h0 (by simp [hr]), by rw [hr]; simpa using h⟩
theorem AnyZ.step {i : Nat} {n : Nat} {o : Oper} {L : Array Bool} {a : Act} {w : World} (ho : ops[i]? = some o) (hr : Region.ready md ops L = [i])
    (h : ∀ K : Act → World → Prop, Shut (∀ a' w', ((L.setIfInBounds i true).getD z true = false → S w') → AnyZ P md ops Q S z n (L.setIfInBounds i true) a' w' → K a' w') → if Region.wanted o (yielded ops a.tmps) = true then Oper.wp P o a w K Q else K (a.put o.dst undef) w) : AnyZ P md ops Q S z (n + 1) L a w :=
  AnyZ.one hr (wpOp_step ho fun K hK => h K fun a' w' hS hA => hK a' w' ⟨hS, hA⟩)
theorem AnyZ.done {L : Array Bool} {a : Act} {w : World} (hr : Region.ready md ops L = []) (h : Q .normal a w) : ∀ n, AnyZ P md ops Q S z n L a w
  | 0 => ⟨hr, h⟩
  | _ + 1 => ⟨fun _ => h, by rw [hr]; simp⟩
theorem region_z {id : Nat} {a : Act} {w : World} (z : Nat) (hm : P.follows .mixedOrders = true)
    (h : AnyZ P .any ops Q S z ops.size (Array.replicate ops.size false) a { w with drawn := w.drawn + 1 }) : (Code.region id ops true).wp P Q a w :=
  wp_region_any hm (AnyZ.any _ _ _ _ h)
end
end Go.Proofs.YtfelgolfebhmkaaDoor
