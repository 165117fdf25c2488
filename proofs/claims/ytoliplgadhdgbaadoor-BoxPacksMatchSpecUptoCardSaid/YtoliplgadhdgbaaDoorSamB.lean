/- Walks: bytes.Equal, sameBoxes of one tree told twice. Conditions as stated. -/
import Derived.Test.YtoliplgadhdgbaaDoorBoxC
import Derived.Lib.Bytes
import Derived.Deep.DeepCutAuto
namespace Go.Proofs.YtoliplgadhdgbaaDoor
open Go.RowKit
/-- The string of bytes. -/
def strB (l : List UInt8) : ByteArray := ⟨l.toArray⟩
theorem convert_bytes {w : World} {A : Option Addr} {n c : Nat} {l : List UInt8} (h : At w 1 e8 A n c l) :
    (convert 23 9 (.slice A n c)).run Tryd.prog w = .ok (.string (strB l)) w := by
  rcases Nat.eq_zero_or_pos n with h0 | h0
  · subst h0
    obtain rfl : l = [] := List.eq_nil_of_length_eq_zero h.len
    rw [run_convert_bytes_string w _ _ 5 A 0 c Tryd.underlying23 Tryd.underlying5 Tryd.underlying9]
    cases A <;> simp [Conv.bytesToString, loadCells]
    all_goals rfl
  · exact conv_bytes h h0
theorem bytesEq_any {A1 A2 : Option Addr} {n1 c1 n2 c2 : Nat} {l m : List UInt8} {w : World} (h1 : At w 1 e8 A1 n1 c1 l) (h2 : At w 1 e8 A2 n2 c2 m) :
    Calls Tryd.prog 8 #[.slice A1 n1 c1, .slice A2 n2 c2] w fun e w' => e = .returned (.bool (l == m)) ∧ w = w' := by
  have k1 := convert_bytes h1
  have k2 := convert_bytes h2
  generalize hs : strB l = s at k1
  generalize ht : strB m = t at k2
  have H1 := hide hs
  have H2 := hide ht
  clear h1 h2 hs ht
  go_enter Tryd.func8, Tryd.ntmps8
  go_wp2
  go_ret
  refine ⟨ret_bool ?_, rfl⟩
  rw [← H1.out, ← H2.out]
  simp [strB, ByteArray.toList_eq]
theorem drewN_add (w : World) (a b : Nat) : (w.drewN a).drewN b = w.drewN (a + b) := World.drewN_drewN _ _ _
theorem BxsAt.parts {w : World} {G : Nat → Prop} {A : Option Addr} {n c : Nat} {l : List BoxT} (h : BxsAt w G A n c l) : ∃ hs : List BoxH, At w 4 eBx A n c hs ∧ hs.length = l.length ∧ (∀ (i : Nat) (y : BoxH) (x : BoxT), hs[i]? = some y → l[i]? = some x → BxHd w G y x) ∧
    (∀ (i : Nat) (y : BoxH) (x : BoxT), hs[i]? = some y → l[i]? = some x → BxsAt w G y.kA y.kn y.kc x.kids) := by
  cases h with
  | mk hs l3 a1 a2 a3 a4 a5 => exact ⟨hs, a1, a3, a4, a5⟩
def SamStmt (s : Nat) : Prop := ∀ {l : List BoxT} {w : World} {G1 G2 : Nat → Prop} {A1 A2 : Option Addr} {n1 c1 n2 c2 : Nat}, SizeOf.sizeOf l ≤ s → BxsAt w G1 A1 n1 c1 l → BxsAt w G2 A2 n2 c2 l →
  (∀ x, x ∈ l → True) → Calls Tryd.prog 9 #[.slice A1 n1 c1, .slice A2 n2 c2] w fun e w' => e = .returned (.bool true) ∧ ∃ m, w' = w.drewN m
set_option maxRecDepth 100000 in
set_option maxHeartbeats 4000000 in
theorem same_step (s : Nat) (ih : ∀ s', s' < s → SamStmt s') : SamStmt s := by
  intro l w G1 G2 A1 A2 n1 c1 n2 c2 hs h1 h2 _
  have hl1 := h1.len
  have hl2 := h2.len
  obtain rfl : n1 = n2 := by omega
  obtain ⟨ys, ha1, hy1, hh1, hk1⟩ := h1.parts
  obtain ⟨zs, ha2, hz1, hh2, hk2⟩ := h2.parts
  have HA1 := hide ha1
  have HA2 := hide ha2
  have HH1 := hide hh1
  have HH2 := hide hh2
  have HK1 := hide hk1
  have HK2 := hide hk2
  have IH := hide ih
  have HL := hide hl1
  have HY := hide hy1
  have HZ := hide hz1
  have hb := ha1.bound
  clear ha1 ha2 hh1 hh2 hk1 hk2 ih hl1 hl2 hy1 hz1 h1 h2
  go_enter Tryd.func9, Tryd.ntmps9
  go_wp2_with fail
  go_loopw [5] (fun ri wr => ∃ k : Nat, k ≤ n1 ∧ ri = .int .i64 k ∧ Hid (∃ m, wr = w.drewN m)) (fun ri _ => n1 - (intOf ri).toNat)
  case atStart => exact ⟨0, by omega, rfl, hide ⟨0, rfl⟩⟩
  case round =>
    obtain ⟨k, hk, rfl, HD⟩ := hrel
    by_cases hlt : k < n1
    · have hkl : k < l.length := by have := HL.out; omega
      have hky : k < ys.length := by have := HY.out; omega
      have hkz : k < zs.length := by have := HZ.out; omega
      have HG : Hid (∀ (i : Nat) (G : Nat → Prop), G i → wr.heap[i]? = w.heap[i]?) := hide (fun i G _ => by obtain ⟨m, hm⟩ := HD.out; rw [hm]; rfl)
      have EX : Ext w wr := by obtain ⟨m, hm⟩ := HD.out; rw [hm]; exact Ext.drewN _ _
      have hat1 := HA1.out.ext EX
      have hat2 := HA2.out.ext EX
      have hq1 := (HH1.out k _ _ (List.getElem?_eq_getElem hky) (List.getElem?_eq_getElem hkl)).good (w' := wr) (fun i hi => HG.out i _ hi) (fun _ h => h)
      have hq2 := (HH2.out k _ _ (List.getElem?_eq_getElem hkz) (List.getElem?_eq_getElem hkl)).good (w' := wr) (fun i hi => HG.out i _ hi) (fun _ h => h)
      have hr1 := (HK1.out k _ _ (List.getElem?_eq_getElem hky) (List.getElem?_eq_getElem hkl)).good (w' := wr) (fun i hi => HG.out i _ hi) (fun _ h => h)
      have hr2 := (HK2.out k _ _ (List.getElem?_eq_getElem hkz) (List.getElem?_eq_getElem hkl)).good (w' := wr) (fun i hi => HG.out i _ hi) (fun _ h => h)
      have hsz : SizeOf.sizeOf l[k].kids < s := by
        have := kids_lt l[k]
        have := elem_lt (List.getElem_mem hkl)
        omega
      obtain ⟨b1, o1, rfl, _⟩ := hat1.addr (by omega)
      obtain ⟨b2, o2, rfl, _⟩ := hat2.addr (by omega)
      have gy : ys.getD k default = ys[k] := by simp [List.getD, hky]
      have gz : zs.getD k default = zs[k] := by simp [List.getD, hkz]
      generalize ys[k] = y at *
      generalize zs[k] = z at *
      generalize l[k] = x at *
      have a0 : wr.cell? ⟨b1, o1 + k * 4, none⟩ = some (.string ⟨y.kind.toArray⟩) := hat1.cellK hlt default 0 _ (by rw [gy]; rfl)
      have a1 : wr.cell? ⟨b1, o1 + k * 4 + 1, none⟩ = some (.int .i64 y.form) := hat1.cellK hlt default 1 _ (by rw [gy]; rfl)
      have a2 : wr.cell? ⟨b1, o1 + k * 4 + 2, none⟩ = some (.slice y.dA y.dn y.dc) := hat1.cellK hlt default 2 _ (by rw [gy]; rfl)
      have a3 : wr.cell? ⟨b1, o1 + k * 4 + 3, none⟩ = some (.slice y.kA y.kn y.kc) := hat1.cellK hlt default 3 _ (by rw [gy]; rfl)
      have d0 : wr.cell? ⟨b2, o2 + k * 4, none⟩ = some (.string ⟨z.kind.toArray⟩) := hat2.cellK hlt default 0 _ (by rw [gz]; rfl)
      have d1 : wr.cell? ⟨b2, o2 + k * 4 + 1, none⟩ = some (.int .i64 z.form) := hat2.cellK hlt default 1 _ (by rw [gz]; rfl)
      have d2 : wr.cell? ⟨b2, o2 + k * 4 + 2, none⟩ = some (.slice z.dA z.dn z.dc) := hat2.cellK hlt default 2 _ (by rw [gz]; rfl)
      have d3 : wr.cell? ⟨b2, o2 + k * 4 + 3, none⟩ = some (.slice z.kA z.kn z.kc) := hat2.cellK hlt default 3 _ (by rw [gz]; rfl)
      rw [hq1.1] at a0
      rw [hq1.2.1] at a1
      rw [hq2.1] at d0
      rw [hq2.2.1] at d1
      have HB1 := hide hq1.2.2.1
      have HB2 := hide hq2.2.2.1
      have HR1 := hide hr1
      have HR2 := hide hr2
      have i1 : (k : Int) < (n1 : Int) := by omega
      have i0 : (0 : Int) ≤ (k : Int) := by omega
      have i8 : IntKind.i64.wrap ((k : Int) + 1) = (k : Int) + 1 := by rw [IntKind.wrap_i64]; omega
      have g2 : (x.form != x.form) = false := by simp
      have HQ1 := hide (fun (a : Nat) => (Calls.mono (bytesEq_any (HB1.out.ext (Ext.drewN wr a)) (HB2.out.ext (Ext.drewN wr a))) (fun e w' he => (⟨by rw [he.1]; simp, he.2⟩ : e = .returned (.bool true) ∧ wr.drewN a = w'))))
      have HQ2 := hide (fun (a : Nat) => IH.out _ hsz (Nat.le_refl _) (BxsAt.good (w := wr) (w' := wr.drewN a) (fun _ _ => rfl) (fun _ h => h) HR1.out) (BxsAt.good (w := wr) (w' := wr.drewN a) (fun _ _ => rfl) (fun _ h => h) HR2.out) (fun _ _ => trivial))
      clear hat1 hat2 hq1 hq2 hr1 hr2 gy gz HG EX hky hkz hkl hsz
      go_wp2_with fail
      go_quiet ((first | (go_at_call 8; exact quiet_left (HQ1.out _)) | (go_at_call 9; exact calls_left (HQ2.out _))))
      go_wp2_with fail
      exact ⟨⟨k + 1, by omega, by go_num, hide (by obtain ⟨m, hm⟩ := HD.out; exact ⟨_, by rw [hm, drewN_add]⟩)⟩, by first | omega | (simp only [intOf]; omega)⟩
    · obtain rfl : n1 = k := by omega
      have i1 : ¬ (n1 : Int) < (n1 : Int) := by omega
      go_wp2_with fail
      go_ret
      exact ⟨rfl, HD.out⟩
theorem same_any (s : Nat) : SamStmt s := by
  induction s using Nat.strongRecOn with
  | _ s ih => exact same_step s ih
end Go.Proofs.YtoliplgadhdgbaaDoor
