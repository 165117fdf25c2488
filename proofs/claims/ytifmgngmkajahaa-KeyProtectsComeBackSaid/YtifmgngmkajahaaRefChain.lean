/- Walk of the document's chained. Conditions: lengths as stated. -/
import Derived.Test.YtifmgngmkajahaaChainB
import Derived.Test.YtifmgngmkajahaaKeyI
import Derived.Test.YtifmgngmkajahaaKeyK
namespace Go.Proofs.Ytifmgngmkajahaa
open Go.RowKit Kc

/-- Is block number j encrypted? -/
def selB (c e : Nat) (j : Nat) : Bool := decide (e = 0) || decide (j % e < c)
/-- So many blocks, from number j on, those that are selected by a chain. -/
def chG (k : List UInt8) (c e : Nat) : Nat → Nat → List UInt8 → List UInt8 → List UInt8
  | 0, _, _, l => l
  | n + 1, j, last, l => if selB c e j = true then encB k (xor8 (l.take 8) last) ++ chG k c e n (j + 1) (encB k (xor8 (l.take 8) last)) (l.drop 8) else l.take 8 ++ chG k c e n (j + 1) last (l.drop 8)
theorem chG_all (k : List UInt8) : ∀ (n j : Nat) (last l : List UInt8), chG k 0 0 n j last l = chainL k n last l
  | 0, _, _, _ => rfl
  | n + 1, j, last, l => by
    rw [chG, if_pos (by simp [selB]), chainL, chG_all k n]
theorem take_split {α : Type} (xs : List α) (i : Nat) : xs.take (i + 8) = xs.take i ++ (xs.drop i).take 8 := by
  rw [List.take_add]

set_option maxRecDepth 100000 in
set_option maxHeartbeats 4000000 in
theorem chained_any {A1 A2 A3 : Option Addr} {c1 c2 n c3 cr ev : Nat} {l m b : List UInt8} {w : World} (h1 : At w 1 e8 A1 16 c1 l) (h2 : At w 1 e8 A2 8 c2 m) (h3 : At w 1 e8 A3 n c3 b) (hn : n ≤ 100000) (hev : ev ≤ 100) :
    Calls Try.prog 100 #[.slice A1 16 c1, .slice A2 8 c2, .slice A3 n c3, .int .i64 cr, .int .i64 ev] w fun e w' => ∃ A c, e = .returned (.slice A n c) ∧ At w' 1 e8 A n c (chG l cr ev (n / 8) 0 m b) ∧ Ext w w' := by
  have hbl := hide h3.len
  have hle3 := h3.le
  have hcb3 := h3.boundc
  have HK := hide h1; have HI := hide h2; have HB := hide h3
  clear h1 h2 h3
  go_enter Try.func100, Try.ntmps100
  go_wp2_with fail
  refine (cloneB_any HB.out (by omega)).mono ?_
  rintro e w1 ⟨A, C, rfl, o1, _, e1⟩
  have O1 := hide o1; have E1 := hide e1
  clear o1 e1
  go_wp2_with fail
  go_loopw [12, 13] (fun rl ri wr => ∃ (j : Nat) (lA : Option Addr) (lc : Nat) (last xs : List UInt8), 8 * j ≤ n ∧ ri = .int .i64 j ∧ rl = .slice lA 8 lc ∧ Hid (At wr 1 e8 lA 8 lc last) ∧
      Hid (Own wr w.heap.size 5 1 e8 (.slice A n C) xs) ∧ Hid (xs.length = n) ∧ Hid (xs.drop (8 * j) = b.drop (8 * j)) ∧ Hid (xs.take (8 * j) ++ chG l cr ev ((n - 8 * j) / 8) j last (b.drop (8 * j)) = chG l cr ev (n / 8) 0 m b) ∧ Hid (Ext w wr)) (fun _ ri _ => n - (intOf ri).toNat)
  case atStart => exact ⟨0, A2, c2, m, b, by omega, rfl, rfl, HI.out.ext E1.out, O1.out, hbl.out, hide rfl, hide (by simp), E1.out⟩
  case round =>
    obtain ⟨j, lA, lc, last, xs, hj, rfl, rfl, HL, HO, HN, HD, HR, HX⟩ := hrel
    by_cases hlt : 8 * j + 8 ≤ n
    · have hat := HO.out.atS len_e8
      have hNC := hat.le
      have hCb := hat.boundc
      obtain ⟨g, hA, hg1, hg2⟩ := HO.out.where_ (by omega) HN.out
      subst hA
      obtain ⟨b3, off3, rfl, _⟩ := HB.out.addr (by omega)
      have ic : 8 * (j : Int) + 8 ≤ (c3 : Int) := by omega
      have jc : ¬ c3 = 8 * j := by omega
      have ic2 : 8 * (j : Int) ≤ (C : Int) := by omega
      have jc2 : ¬ C = 8 * j := by omega
      have e8j : (8 * (j : Int)).toNat = 8 * j := by omega
      have e8k : (8 * (j : Int) + 8).toNat - 8 * j = 8 := by omega
      clear hat
      by_cases he : ev = 0
      · subst he
        have HS : Hid (selB cr 0 j = true) := hide (by simp [selB])
        go_wp2_with fail
        have hcut := ((HB.out.ext HX.out).cutAt (k := 8 * j) (by omega) (by omega)).upto (k := 8) (by omega)
        rw [Nat.mul_one] at hcut
        have hyl := hcut.len
        refine (xored_any hcut HL.out (by omega) (by omega)).mono ?_
        rintro e w2 ⟨gx, rfl, ox, ex⟩
        rw [xrL8 _ _ hyl] at ox
        have HXX := hide (ox.atS len_e8)
        have E2 := hide (Ext.trans HX.out ex)
        have z2 := ex.size
        have O2 := hide (HO.out.ext ex)
        clear ox hcut
        go_wp2_with fail
        refine (encrypted_any (HK.out.ext E2.out) HXX.out (by omega) rfl).mono ?_
        rintro e w3 ⟨A4, c4, rfl, oe, ee⟩
        obtain ⟨x, hx⟩ : ∃ x, x = encB l (xor8 ((b.drop (8 * j)).take 8) last) := ⟨_, rfl⟩
        have hxl : x.length = 8 := by rw [hx]; rfl
        rw [← hx] at oe
        have HP := hide (oe.atS len_e8)
        have hal : Hid (w2.heap.size ≤ A4.block) := hide (oe.lt A4.block rfl).1
        have O3 := hide (O2.out.ext ee)
        have E3 := hide (Ext.trans E2.out ee)
        have z3 := ee.size
        have i10 : 8 ≤ n - 8 * j := by omega
        have HXE := hide hx; have HXL := hide hxl; have HE := hide ee
        clear oe ee hx hxl ex
        go_wp2_with (refine wpList_copy_ownB (o := ⟨some 50, _, _, _, _, _⟩) rfl (.tmp 48) (.tmp 49) 22 22 rfl 5 Try.underlying22 size8 (base := w.heap.size) (g := g) (N := n) (C := C) (off := 8 * j) (te := 5) (n := 8) (xs := xs) (m := x) rfl rfl ?own ?at_ i10 (by omega) (by omega) ?_; rotate_left 2; intro w4 o4 g4; have O4 := hide o4; have G4 := hide g4; clear o4 g4)
        case own => exact O3.out
        case at_ => exact HP.out
        have N4 : Hid ((spl xs (8 * j) x).length = n) := hide (by rw [length_spl _ _ _ (by rw [HXL.out, HN.out]; omega), HN.out])
        have L4 : Hid (At w4 1 e8 (some A4) 8 c4 x) := hide (HP.out.grown G4.out (fun a ha => by
          have h1 := hal.out
          injection ha with ha
          subst ha
          intro hh; injection hh with hh; omega))
        have X4 : Hid (Ext w w4) := hide (Below.grown E3.out G4.out (by have := E3.out.size; omega) (fun k h => by have h' : g = k := Option.some.inj h; omega))
        have D4 : Hid ((spl xs (8 * j) x).drop (8 * (j + 1)) = b.drop (8 * (j + 1))) := hide (by
          have t2 := spl_drop xs (8 * j) x (by rw [HXL.out, HN.out]; omega)
          rw [HXL.out] at t2
          have t3 := congrArg (List.drop 8) HD.out
          rw [List.drop_drop, List.drop_drop] at t3
          rw [show 8 * (j + 1) = 8 * j + 8 by omega, t2, t3])
        have R4 : Hid ((spl xs (8 * j) x).take (8 * (j + 1)) ++ chG l cr 0 ((n - 8 * (j + 1)) / 8) (j + 1) x (b.drop (8 * (j + 1))) = chG l cr 0 (n / 8) 0 m b) := hide (by
          have t1 := spl_take xs (8 * j) x (by rw [HXL.out, HN.out]; omega)
          rw [HXL.out] at t1
          rw [show 8 * (j + 1) = 8 * j + 8 by omega, t1, ← HR.out]
          have hq : (n - 8 * j) / 8 = (n - (8 * j + 8)) / 8 + 1 := by omega
          rw [hq]
          simp only [chG]
          rw [if_pos HS.out, ← HXE.out, List.append_assoc, List.drop_drop])
        go_wp2
        go_roundw
        case rel =>
          first
            | exact ⟨j + 1, some A4, c4, x, spl xs (8 * j) x, by omega, by go_num, rfl, L4.out, O4.out, N4.out, D4.out, R4.out, X4.out⟩
            | ((repeat apply Exists.intro); exact ⟨⟨j + 1, some A4, c4, x, spl xs (8 * j) x, by omega, by go_num, rfl, L4.out, O4.out, N4.out, D4.out, R4.out, X4.out⟩, rfl⟩)
        case measure => simp [intOf]; omega
      · have hep : ¬ ((ev : Int) = 0) := by omega
        have hjm : (j : Int).tmod (ev : Int) = ((j % ev : Nat) : Int) := by rw [Int.tmod_eq_emod_of_nonneg (by omega)]; rfl
        go_wp2_with fail
        · have hcond : ((ev : Int) == 0) = true ∨ (j : Int) % (ev : Int) < (cr : Int) := by assumption
          have hm : j % ev < cr := by
            rcases hcond with h | h
            · exact absurd (eq_of_beq h) hep
            · exact_mod_cast h
          have HS : Hid (selB cr ev j = true) := hide (by simp [selB, hm])
          have hcut := ((HB.out.ext HX.out).cutAt (k := 8 * j) (by omega) (by omega)).upto (k := 8) (by omega)
          rw [Nat.mul_one] at hcut
          have hyl := hcut.len
          refine (xored_any hcut HL.out (by omega) (by omega)).mono ?_
          rintro e w2 ⟨gx, rfl, ox, ex⟩
          rw [xrL8 _ _ hyl] at ox
          have HXX := hide (ox.atS len_e8)
          have E2 := hide (Ext.trans HX.out ex)
          have z2 := ex.size
          have O2 := hide (HO.out.ext ex)
          clear ox hcut
          go_wp2_with fail
          refine (encrypted_any (HK.out.ext E2.out) HXX.out (by omega) rfl).mono ?_
          rintro e w3 ⟨A4, c4, rfl, oe, ee⟩
          obtain ⟨x, hx⟩ : ∃ x, x = encB l (xor8 ((b.drop (8 * j)).take 8) last) := ⟨_, rfl⟩
          have hxl : x.length = 8 := by rw [hx]; rfl
          rw [← hx] at oe
          have HP := hide (oe.atS len_e8)
          have hal : Hid (w2.heap.size ≤ A4.block) := hide (oe.lt A4.block rfl).1
          have O3 := hide (O2.out.ext ee)
          have E3 := hide (Ext.trans E2.out ee)
          have z3 := ee.size
          have i10 : 8 ≤ n - 8 * j := by omega
          have HXE := hide hx; have HXL := hide hxl; have HE := hide ee
          clear oe ee hx hxl ex
          go_wp2_with (refine wpList_copy_ownB (o := ⟨some 50, _, _, _, _, _⟩) rfl (.tmp 48) (.tmp 49) 22 22 rfl 5 Try.underlying22 size8 (base := w.heap.size) (g := g) (N := n) (C := C) (off := 8 * j) (te := 5) (n := 8) (xs := xs) (m := x) rfl rfl ?own ?at_ i10 (by omega) (by omega) ?_; rotate_left 2; intro w4 o4 g4; have O4 := hide o4; have G4 := hide g4; clear o4 g4)
          case own => exact O3.out
          case at_ => exact HP.out
          have N4 : Hid ((spl xs (8 * j) x).length = n) := hide (by rw [length_spl _ _ _ (by rw [HXL.out, HN.out]; omega), HN.out])
          have L4 : Hid (At w4 1 e8 (some A4) 8 c4 x) := hide (HP.out.grown G4.out (fun a ha => by
            have h1 := hal.out
            injection ha with ha
            subst ha
            intro hh; injection hh with hh; omega))
          have X4 : Hid (Ext w w4) := hide (Below.grown E3.out G4.out (by have := E3.out.size; omega) (fun k h => by have h' : g = k := Option.some.inj h; omega))
          have D4 : Hid ((spl xs (8 * j) x).drop (8 * (j + 1)) = b.drop (8 * (j + 1))) := hide (by
            have t2 := spl_drop xs (8 * j) x (by rw [HXL.out, HN.out]; omega)
            rw [HXL.out] at t2
            have t3 := congrArg (List.drop 8) HD.out
            rw [List.drop_drop, List.drop_drop] at t3
            rw [show 8 * (j + 1) = 8 * j + 8 by omega, t2, t3])
          have R4 : Hid ((spl xs (8 * j) x).take (8 * (j + 1)) ++ chG l cr ev ((n - 8 * (j + 1)) / 8) (j + 1) x (b.drop (8 * (j + 1))) = chG l cr ev (n / 8) 0 m b) := hide (by
            have t1 := spl_take xs (8 * j) x (by rw [HXL.out, HN.out]; omega)
            rw [HXL.out] at t1
            rw [show 8 * (j + 1) = 8 * j + 8 by omega, t1, ← HR.out]
            have hq : (n - 8 * j) / 8 = (n - (8 * j + 8)) / 8 + 1 := by omega
            rw [hq]
            simp only [chG]
            rw [if_pos HS.out, ← HXE.out, List.append_assoc, List.drop_drop])
          go_wp2
          go_roundw
          case rel =>
            first
              | exact ⟨j + 1, some A4, c4, x, spl xs (8 * j) x, by omega, by go_num, rfl, L4.out, O4.out, N4.out, D4.out, R4.out, X4.out⟩
              | ((repeat apply Exists.intro); exact ⟨⟨j + 1, some A4, c4, x, spl xs (8 * j) x, by omega, by go_num, rfl, L4.out, O4.out, N4.out, D4.out, R4.out, X4.out⟩, rfl⟩)
          case measure => simp [intOf]; omega
        · rename_i hcond
          have hm : ¬ j % ev < cr := by
            have h := hcond.2
            have h' : cr ≤ j % ev := by exact_mod_cast h
            omega
          have R4 : Hid (xs.take (8 * (j + 1)) ++ chG l cr ev ((n - 8 * (j + 1)) / 8) (j + 1) last (b.drop (8 * (j + 1))) = chG l cr ev (n / 8) 0 m b) := hide (by
            rw [show 8 * (j + 1) = 8 * j + 8 by omega, take_split, ← HR.out, HD.out]
            have hq : (n - 8 * j) / 8 = (n - (8 * j + 8)) / 8 + 1 := by omega
            rw [hq]
            simp only [chG]
            rw [if_neg (by simp [selB, he, hm]), List.append_assoc, List.drop_drop])
          have D4 : Hid (xs.drop (8 * (j + 1)) = b.drop (8 * (j + 1))) := hide (by
            have t3 := congrArg (List.drop 8) HD.out
            rw [List.drop_drop, List.drop_drop] at t3
            rw [show 8 * (j + 1) = 8 * j + 8 by omega, t3])
          refine ⟨⟨j + 1, lA, lc, last, xs, by omega, by go_num, rfl, HL.out, HO.out, HN.out, D4.out, R4.out, HX.out⟩, ?_⟩
          simp [intOf]; omega
    · have hfin : chG l cr ev (n / 8) 0 m b = xs := by
        have q := HR.out
        rw [show (n - 8 * j) / 8 = 0 by omega] at q
        simp only [chG] at q
        rw [← q, ← HD.out, List.take_append_drop]
      have HF := hide hfin
      clear hfin
      go_wp2
      go_ret
      exact ⟨_, _, rfl, by rw [HF.out]; exact HO.out.atS len_e8, HX.out⟩
end Go.Proofs.Ytifmgngmkajahaa
