/- Walks: parse and Parse (reference). Conditions as stated. -/
import Derived.Test.YtgnmnhlhiiehfaaRunA
import Derived.Test.YtgnmnhlhiiehfaaBoxD
namespace Go.Proofs.Ytgnmnhlhiiehfaa
open Go.RowKit
/-- What the reference's parse gives. -/
def RfpGives (w : World) (b : List UInt8) (r : ParR) (e : Ending) (w' : World) : Prop :=
  Ext w w' ∧ (∀ a f, r = .err a f → e = .returned (.tuple #[.slice none 0 0, .slice none 0 0, .int .i64 (a : Int), .int .i64 f])) ∧
  (∀ l cc, r = .ok l cc → ∃ N c2 M c3, e = .returned (.tuple #[.slice N l.length c2, .slice M l.length c3, .int .i64 0, .int .i64 0]) ∧ BxsAt w' (fun k => w.heap.size ≤ k ∧ k < w'.heap.size) N l.length c2 (boxesOf b l) ∧
    PlsAt w' (fun k => w.heap.size ≤ k ∧ k < w'.heap.size) M l.length c3 l)
set_option maxRecDepth 100000 in
set_option maxHeartbeats 2000000 in
theorem refparse_any {A : Option Addr} {n c : Nat} {b : List UInt8} {w : World} (h : At w 1 e8 A n c b) :
    Calls Try.prog 30 #[.slice A n c] w (RfpGives w b (parseF b)) := by
  have hl := h.len
  have hbd := h.bound
  have hA := fun hn0 => h.blk_lt len_e8 (by omega) hn0
  by_cases hn : 1000000 < n
  · have HV : Hid (parseF b = .err 0 2) := hide (by unfold parseF; rw [if_pos (by omega)])
    clear hl h hA
    go_enter Try.func30, Try.ntmps30
    go_wp2_with fail
    refine bodyPost_ret (v := .tuple #[.slice none 0 0, .slice none 0 0, .int .i64 0, .int .i64 2]) (by simp [results, Try.results30, go_sem]) rfl ⟨Ext.refl _, fun a f e => by rw [HV.out] at e; cases e; rfl, fun l cc e => by rw [HV.out] at e; cases e⟩
  have HV : Hid (parseF b = parF b 0 n 0 0) := hide (by unfold parseF; rw [if_neg (by omega), hl])
  have hk := Blk.new w 100 #[.slice A n c, .int .i64 0, .int .i64 0, .int .i64 0]
  have HN := run_any n (gp := w.heap.size) (f := 0) (t := n) (depth := 0) (cnt := 0) (A := A) (n := n) (c := c) (b := b) (w := w.alloc (.cells #[.slice A n c, .int .i64 0, .int .i64 0, .int .i64 0] 100)) (by omega) hk (h.ext (Ext.alloc _ _)) (fun hn0 a ha => by have := hA hn0 a ha; omega) (by omega) (by omega) (by omega) (by omega) (by omega)
  rw [show ((0 : Nat) : Int) = 0 from rfl] at HN
  have HNK := hide HN
  clear HN hk hl h
  go_enter Try.func30, Try.ntmps30
  go_wp2_with fail
  with_reducible refine HNK.out.mono ?_
  intro e w1 hg
  obtain ⟨t1, herr, hok⟩ := hg
  have E1 : Ext w w1 := ⟨t1.os, t1.tape, t1.output, by have := t1.size; rw [World.size_alloc] at this; omega, fun k hk => (t1.block k (by rw [World.size_alloc]; omega) (by omega) (by simp)).trans ((Ext.alloc w (.cells #[.slice A n c, .int .i64 0, .int .i64 0, .int .i64 0] 100)).block k hk)⟩
  have hs1 : w.heap.size + 1 ≤ w1.heap.size := by have := t1.size; rw [World.size_alloc] at this; omega
  rw [← HV.out] at herr hok
  cases hq : parseF b with
  | err a f =>
    obtain ⟨⟨cnt2, hb1⟩, he⟩ := herr a f hq
    subst he
    have HE := hide E1
    have HQ := hide hq
    have hf : (f != 0) = true := by
      unfold parseF at hq
      split at hq
      · cases hq; rfl
      · exact parF_err hq
    have c3 : w1.cell? ⟨w.heap.size, 3, none⟩ = some (.int .i64 f) := hb1.cell 3
    have c2 : w1.cell? ⟨w.heap.size, 2, none⟩ = some (.int .i64 (a : Int)) := hb1.cell 2
    clear herr hok hq E1 t1 hb1
    go_wp2_with fail
    go_quiet (fail)
    go_wp2_with fail
    refine bodyPost_ret (v := .tuple #[.slice none 0 0, .slice none 0 0, .int .i64 (a : Int), .int .i64 f]) (by simp [results, Try.results30, go_sem]) rfl ⟨Ext.trans HE.out (Ext.drewN _ _), (fun a' f' e => by rw [HQ.out] at e; cases e; rfl), fun l cc e => by rw [HQ.out] at e; cases e⟩
  | ok l cc =>
    obtain ⟨hb1, N, c2, M, c3, he, hbx, hpl⟩ := hok l cc hq
    subst he
    have HE := hide E1
    have HQ := hide hq
    have hsub : ∀ k, ((w.alloc (.cells #[.slice A n c, .int .i64 0, .int .i64 0, .int .i64 0] 100)).heap.size ≤ k ∧ k < w1.heap.size) → (w.heap.size ≤ k ∧ k < w1.heap.size) := fun k hk => ⟨by have := hk.1; rw [World.size_alloc] at this; omega, hk.2⟩
    have HBX := hide (hbx.good (H := fun k => w.heap.size ≤ k ∧ k < w1.heap.size) (fun _ _ => rfl) hsub)
    have HPL := hide (hpl.good (H := fun k => w.heap.size ≤ k ∧ k < w1.heap.size) (fun _ _ => rfl) hsub)
    have c3_ : w1.cell? ⟨w.heap.size, 3, none⟩ = some (.int .i64 0) := hb1.cell 3
    clear herr hok hq E1 t1 hbx hpl hsub hb1
    go_wp2_with fail
    refine bodyPost_ret (v := .tuple #[.slice N l.length c2, .slice M l.length c3, .int .i64 0, .int .i64 0]) (by simp [results, Try.results30, go_sem]) rfl ⟨HE.out, (fun a' f' e => by rw [HQ.out] at e; cases e), fun l cc e => by rw [HQ.out] at e; cases e; exact ⟨N, c2, M, c3, rfl, HBX.out, HPL.out⟩⟩
set_option maxRecDepth 100000 in
set_option maxHeartbeats 2000000 in
theorem refParse_any {A : Option Addr} {n c : Nat} {b : List UInt8} {w : World} (h : At w 1 e8 A n c b) :
    Calls Try.prog 10 #[.slice A n c] w (PrsGives w b (parseF b)) := by
  have HP := hide (refparse_any h)
  clear h
  go_enter Try.func10, Try.ntmps10
  go_wp2_with fail
  with_reducible refine HP.out.mono ?_
  intro e w1 hg
  obtain ⟨e1, herr, hok⟩ := hg
  have E1 := hide e1
  cases hq : parseF b with
  | err a f =>
    have he := herr a f hq
    have HQ := hide hq
    subst he
    clear herr hok hq e1
    go_wp2_with fail
    refine bodyPost_ret (v := .tuple #[.slice none 0 0, .int .i64 (a : Int), .int .i64 f]) (by simp [results, Try.results10, go_sem]) rfl ⟨E1.out, (fun a' f' e => by rw [HQ.out] at e; cases e; rfl), fun l cc e => by rw [HQ.out] at e; cases e⟩
  | ok l cc =>
    obtain ⟨N, c2, M, c3, he, hbx, hpl⟩ := hok l cc hq
    subst he
    have HQ := hide hq
    have HBX := hide hbx
    clear herr hok hq e1 hbx hpl
    go_wp2_with fail
    refine bodyPost_ret (v := .tuple #[.slice N l.length c2, .int .i64 0, .int .i64 0]) (by simp [results, Try.results10, go_sem]) rfl ⟨E1.out, (fun a' f' e => by rw [HQ.out] at e; cases e), fun l cc e => by rw [HQ.out] at e; cases e; exact ⟨N, c2, rfl, HBX.out⟩⟩
end Go.Proofs.Ytgnmnhlhiiehfaa
