/- Walks: slices.Clone of leases, answer of the reference. Conditions: as stated. -/
import Derived.Test.YtfpmjaeehhegcaaLast
namespace Go.Proofs.Ytfpmjaeehhegcaa
open Go.RowKit

theorem gen_body {P : Program} {f : Func} {Q : Ending → World → Prop} {x : Exit} {a : Act} {W : World} (h : ∀ W', W' = W → bodyPost P f Q x a W') : bodyPost P f Q x a W := h W rfl
theorem gen_wp4 {P : Program} {c : Code} {Q : Exit → Act → World → Prop} {a : Act} {W : World} (h : ∀ W', W' = W → Code.wp P c Q a W') : Code.wp P c Q a W := h W rfl
theorem len_eHd (x : HeldV) : (eHd x).length = 3 := rfl
theorem one_eHd (x : HeldV) : ∀ u ∈ eHd x, u.oneCell' = true := by
  intro u hu
  simp at hu
  rcases hu with rfl | rfl | rfl <;> rfl
theorem Try.info95 : (Try.prog.info? 95).map (fun i => (i.zero, i.size, i.bytes)) = some (some (.agg #[.string ByteArray.empty, .string ByteArray.empty, .int .i64 0]), 3, 40) := by kernel_rfl
theorem Try.info83 : (Try.prog.info? 83).map (fun i => (i.zero, i.size, i.bytes)) = some (some (.agg #[.string ByteArray.empty, .string ByteArray.empty, .int .i64 0]), 3, 40) := by kernel_rfl
set_option maxRecDepth 100000 in
set_option maxHeartbeats 1000000 in
theorem cloneH_any {A : Option Addr} {n c : Nat} {l : List HeldV} {w : World} (h : At w 3 eHd A n c l) (hb : n ≤ 100000000) :
    Calls Try.prog 52 #[.slice A n c] w fun e w' => ∃ A' c', e = .returned (.slice A' n c') ∧ Own w' w.heap.size 95 3 eHd (.slice A' n c') l ∧ Ext w w' := by
  obtain ⟨i0, hi0, hz0, hz1, hz2⟩ := info_parts Try.info95
  have hl := h.len
  have H := hide h
  have HL := hide hl
  clear hl h
  cases A with
  | none =>
    have hn := H.out.none_ rfl
    have hle := H.out.le
    obtain rfl : n = 0 := by omega
    have hc0 : c = 0 := hn
    subst hc0
    have e1 := fun (W : World) => Lib.run_eql_slice_nil (P := Try.prog) W 65 95 none 0 0 0 0 Try.underlying65
    go_enter Try.func52, Try.ntmps52
    obtain rfl : l = [] := List.eq_nil_of_length_eq_zero HL.out
    go_wp2
    go_ret
    exact ⟨none, 0, rfl, Own.nil _ _ _ _ _, Ext.refl _⟩
  | some a =>
    have e1 := fun (W : World) => Lib.run_eql_slice_nil (P := Try.prog) W 65 95 (some a) n c 0 0 Try.underlying65
    go_enter Try.func52, Try.ntmps52
    have o0 : Own (w.alloc (.cells #[] 95)) w.heap.size 95 3 eHd (.slice (some ⟨w.heap.size, 0, none⟩) 0 0) [] :=
      ⟨by simp, .inr ⟨w.heap.size, 0, #[], rfl, Nat.le_refl _, heap_alloc_new w _, Nat.le_refl _, by unfold maxLen; omega, rfl, rfl⟩⟩
    have O0 := hide o0
    clear o0
    go_wp2_with (at_builtin; refine wpList_append_at _ rfl (.tmp 5) (.tmp 6) 65 rfl w.heap.size 95 i0 _ 40 Try.underlying65 hi0 hz0 hz1 hz2 rfl (by omega) len_eHd one_eHd (.slice (some ⟨w.heap.size, 0, none⟩) 0 0) [] rfl O0.out (some a) n c l rfl (H.out.ext (by repeat' (first | (with_reducible exact Below.refl _ _) | (with_reducible assumption) | (with_reducible refine below_drewN ?_ _) | (with_reducible refine Below.drew ?_) | (with_reducible refine ext_alloc ?_ _) | (with_reducible refine Below.setCell ?_ ?_ _) | go_size))) ?b1 ?b2 ?b3 ?_)
    case b1 => simp; have := H.out.max; have := H.out.le; unfold maxLen at *; omega
    case b2 => simp; omega
    case b3 => simp
    intro v3 w3 o3 g3 n3 _
    have o3' : Own w3 w.heap.size 95 3 eHd v3 l := o3
    obtain ⟨A3, c3, hv3, _⟩ := o3'.at_ len_eHd
    rw [HL.out] at hv3
    rw [hv3] at o3' ⊢
    have O3 := hide o3'
    have E3 := hide (O0.out.below (Ext.alloc w (.cells #[] 95)) g3 (Nat.le_refl _))
    clear o3 o3' g3 n3 hv3
    go_wp2
    go_ret
    exact ⟨A3, c3, rfl, O3.out, E3.out⟩
/-- An answer and the leases behind it. -/
def AnsGives (w : World) (hA : Option Addr) (r : (Int × Int) × List HeldV) (e : Ending) (w' : World) : Prop :=
  ∃ A' n' c', e = .returned (.tuple #[.agg #[.int .i64 r.1.1, .int .i64 r.1.2], .slice A' n' c']) ∧ At w' 3 eHd A' n' c' r.2 ∧ Ext w w' ∧ (A' = hA ∨ ∃ g, A' = some ⟨g, 0, none⟩ ∧ w.heap.size ≤ g ∧ g < w'.heap.size)
section
variable {sA hA : Option Addr} {sn sc hn hc : Nat} {L : List SeatV} {hs : List HeldV} {t kd : Int} {u s : ByteArray} {w : World}
theorem idx_none {α : Type} {p : α → Bool} {l : List α} (h : l.findIdx? p = none) : idxP p l = -1 := by unfold idxP; rw [h]
theorem idx_some {α : Type} {p : α → Bool} {l : List α} {k : Nat} (h : l.findIdx? p = some k) : idxP p l = k := by unfold idxP; rw [h]
/-- The two blocks that answer lays first. -/
theorem ans_cells (w : World) (t : Int) (u s : ByteArray) (kd : Int) {W : World} (hW : Ext ((w.alloc (.cells #[.int .i64 t, .string u, .string s, .int .i64 kd] 33)).alloc (.cells #[.int .i64 0, .int .i64 0] 37)) W) :
    (W.cell? ⟨w.heap.size, 0, none⟩ = some (.int .i64 t) ∧ W.cell? ⟨w.heap.size, 1, none⟩ = some (.string u) ∧ W.cell? ⟨w.heap.size, 2, none⟩ = some (.string s) ∧ W.cell? ⟨w.heap.size, 3, none⟩ = some (.int .i64 kd)) ∧
    (W.cell? ⟨w.heap.size + 1, 0, none⟩ = some (.int .i64 0) ∧ W.cell? ⟨w.heap.size + 1, 1, none⟩ = some (.int .i64 0)) ∧ (W.frozen? ⟨w.heap.size + 1, 0, none⟩ = false ∧ W.frozen? ⟨w.heap.size + 1, 1, none⟩ = false) ∧ w.heap.size + 1 < W.heap.size ∧ Blk W (w.heap.size + 1) 37 #[.int .i64 0, .int .i64 0] := by
  have b := ((Blk.new w 33 #[.int .i64 t, .string u, .string s, .int .i64 kd]).alloc (.cells #[.int .i64 0, .int .i64 0] 37)).ext hW
  have b2 := (Blk.new (w.alloc (.cells #[.int .i64 t, .string u, .string s, .int .i64 kd] 33)) 37 #[.int .i64 0, .int .i64 0]).ext hW
  rw [World.size_alloc] at b2
  exact ⟨⟨b.cell 0, b.cell 1, b.cell 2, b.cell 3⟩, ⟨b2.cell 0, b2.cell 1⟩, ⟨b2.frozen 0, b2.frozen 1⟩, b2.lt, b2⟩
set_option maxRecDepth 100000 in
set_option maxHeartbeats 2000000 in
theorem refAns_denied (h : At w 3 eS sA sn sc L) (h2 : At w 3 eHd hA hn hc hs) (hk : L.findIdx? (seatP u) = none) :
    Calls Try.prog 31 #[.slice sA sn sc, .slice hA hn hc, .agg #[.int .i64 t, .string u, .string s, .int .i64 kd]] w (AnsGives w hA ((14, 0), hs)) := by
  have HS := hide (fun (W : World) (hW : Ext w W) => refSeatsOf_any (h.ext hW) u)
  rw [idx_none hk] at HS
  have HX : Hid (Ext w ((w.alloc (.cells #[.int .i64 t, .string u, .string s, .int .i64 kd] 33)).alloc (.cells #[.int .i64 0, .int .i64 0] 37))) := hide (ext_alloc (Ext.alloc _ _) _)
  have HCL := hide (fun (W : World) hW => ans_cells w t u s kd (W := W) hW)
  have H2 := hide h2
  clear h h2 hk
  go_enter Try.func31, Try.ntmps31
  go_wp2_with fail
  refine (HS.out _ HX.out).mono ?_
  rintro e w1 ⟨rfl, e1⟩
  obtain ⟨⟨a0, a1, a2, a3⟩, ⟨c0, c1⟩, ⟨f0, f1⟩, z1, b1⟩ := HCL.out w1 e1
  have HB := hide b1
  have E1 := hide (Ext.trans HX.out e1)
  clear b1 e1
  go_wp2_with fail
  refine gen_body fun W3 h3 => ?_
  have B3 : Blk W3 (w.heap.size + 1) 37 #[.int .i64 14, .int .i64 0] := by rw [h3]; exact (HB.out.set_ 0 _).set_ 1 _
  have E3 : Ext w W3 := by
    have ew := E1.out
    rw [h3]
    exact (by repeat' (first | (with_reducible exact Below.refl _ _) | (with_reducible assumption) | (with_reducible refine below_drewN ?_ _) | (with_reducible refine Below.drew ?_) | (with_reducible refine ext_alloc ?_ _) | (with_reducible refine Below.setCell ?_ ?_ _) | go_size))
  have k0 := B3.cell 0
  have k1 := B3.cell 1
  clear h3 a0 a1 a2 a3 c0 c1 f0 f1 z1
  refine bodyPost_ret (v := .tuple #[.agg #[.int .i64 14, .int .i64 0], .slice hA hn hc]) (by simp [results, Try.results31, go_sem, k0, k1]) rfl ⟨_, _, _, rfl, H2.out.ext E3, E3, .inl rfl⟩
end
end Go.Proofs.Ytfpmjaeehhegcaa
