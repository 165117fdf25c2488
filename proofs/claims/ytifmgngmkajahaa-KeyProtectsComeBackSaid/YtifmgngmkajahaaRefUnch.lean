/- Walk of the document's unchained. Conditions: lengths as stated. -/
import Derived.Test.YtifmgngmkajahaaRefChain
import Derived.Test.YtifmgngmkajahaaKeyL
namespace Go.Proofs.Ytifmgngmkajahaa
open Go.RowKit Kc

theorem step_copy_ownB {P : Program} {w : World} {ops : Array Oper} {o : Oper} {a : Act} {K : Act → World → Prop} {Q : Exit → Act → World → Prop} {E : Prop} (hgd : o.guard = none) (d s : Operand) (dT sT : TypeId)
    (ho : o.op = .call { callee := .builtin .copy, args := #[d, s], argTypes := #[dT, sT] }) (elem : TypeId) (hu : P.underlying dT = some (.slice elem)) (hsz : (P.info? elem).map (·.size) = some 1)
    {base g N C off dl dc : Nat} {te : TypeId} {A : Option Addr} {n c : Nat} {xs m : List UInt8} (hd : a.eval d = .slice (some ⟨g, off, none⟩) dl dc) (hs : a.eval s = .slice A n c)
    (hown : Own w base te 1 e8 (.slice (some ⟨g, 0, none⟩) N C) xs) (hm : At w 1 e8 A n c m) (hn : n ≤ dl) (hn0 : 0 < n) (hfit : off + n ≤ N)
    (h : ∀ w', Own w' base te 1 e8 (.slice (some ⟨g, 0, none⟩) N C) (spl xs off m) → w.grownBy w' (some g) → K (a.put o.dst (goInt n)) w') :
    if Region.wanted o (yielded ops a.tmps) = true then Oper.wp P o a w K Q else E := by
  have hw : Region.wanted o (yielded ops a.tmps) = true := by simp [Region.wanted, hgd]
  rw [if_pos hw]
  obtain ⟨b, so, rfl, hc⟩ := hm.addr hn0
  have hl := hm.len
  obtain ⟨cur, hg, hNC, hCm, hcs, hxl, ht, hb⟩ := hown.row1
  have e : (m.map B8).length = n := by simp [hl]
  have hrun := run_copy_row (P := P) w dT sT o.type elem g off dl dc ⟨b, so, none⟩ n c cur te (m.map B8) hu hsz hg (by rw [e]; exact (Nat.min_eq_left hn).symm) (fun j v hv => by
      have hj : j < m.length := by have := (List.getElem?_eq_some_iff.1 hv).1; simpa using this
      rw [List.getElem?_map, List.getElem?_eq_getElem hj] at hv
      have := hc j hj 0 v (by simpa using hv)
      rw [Addr.add_lit]
      simpa using this) (by rw [e]; omega) (fun v hv => by
      obtain ⟨x, _, rfl⟩ := List.mem_map.1 hv
      rfl)
  rw [e] at hrun
  unfold Oper.wp
  simp [execOp, ho, resolve, invoke, builtin, hd, hs, hrun, Result.andThen]
  exact h _ (own_splice hg hb hNC hCm hcs hxl ht hl hfit) ⟨rfl, rfl, rfl, by simp, fun k _ hk => setRow_other w g k _ (fun e => hk (by rw [e]))⟩

/-- So many blocks, from number j on, those that are selected taken back. -/
def unG (k : List UInt8) (c e : Nat) : Nat → Nat → List UInt8 → List UInt8 → List UInt8
  | 0, _, _, l => l
  | n + 1, j, last, l => if selB c e j = true then xor8 (decB k (l.take 8)) last ++ unG k c e n (j + 1) (l.take 8) (l.drop 8) else l.take 8 ++ unG k c e n (j + 1) last (l.drop 8)
theorem unG_all (k : List UInt8) : ∀ (n j : Nat) (last l : List UInt8), unG k 0 0 n j last l = unchL k n last l
  | 0, _, _, _ => rfl
  | n + 1, j, last, l => by
    rw [unG, if_pos (by simp [selB]), unchL, unG_all k n]
set_option maxRecDepth 100000 in
set_option maxHeartbeats 4000000 in
theorem unchained_any {A1 A2 A3 : Option Addr} {c1 c2 n c3 cr ev : Nat} {l m b : List UInt8} {w : World} (h1 : At w 1 e8 A1 16 c1 l) (h2 : At w 1 e8 A2 8 c2 m) (h3 : At w 1 e8 A3 n c3 b) (hn : n ≤ 100000) (hev : ev ≤ 100) :
    Calls Try.prog 101 #[.slice A1 16 c1, .slice A2 8 c2, .slice A3 n c3, .int .i64 cr, .int .i64 ev] w fun e w' => ∃ A c, e = .returned (.slice A n c) ∧ At w' 1 e8 A n c (unG l cr ev (n / 8) 0 m b) ∧ Ext w w' := by
  have hbl := hide h3.len
  have hle3 := h3.le
  have hcb3 := h3.boundc
  have HK := hide h1; have HI := hide h2; have HB := hide h3
  clear h1 h2 h3
  go_enter Try.func101, Try.ntmps101
  go_wp2_with fail
  refine (cloneB_any HB.out (by omega)).mono ?_
  rintro e w1 ⟨A, C, rfl, o1, _, e1⟩
  have O1 := hide o1; have E1 := hide e1
  clear o1 e1
  go_wp2_with fail
  go_loopw [12, 13] (fun rl ri wr => ∃ (j : Nat) (lA : Option Addr) (lc : Nat) (last xs : List UInt8), 8 * j ≤ n ∧ ri = .int .i64 j ∧ rl = .slice lA 8 lc ∧ Hid (At wr 1 e8 lA 8 lc last) ∧
      Hid (Own wr w.heap.size 5 1 e8 (.slice A n C) xs) ∧ Hid (xs.length = n) ∧ Hid (xs.drop (8 * j) = b.drop (8 * j)) ∧ Hid (xs.take (8 * j) ++ unG l cr ev ((n - 8 * j) / 8) j last (b.drop (8 * j)) = unG l cr ev (n / 8) 0 m b) ∧ Hid (Ext w wr)) (fun _ ri _ => n - (intOf ri).toNat)
  case atStart => exact ⟨0, A2, c2, m, b, by omega, rfl, rfl, HI.out.ext E1.out, O1.out, hbl.out, hide rfl, hide (by simp), E1.out⟩
  case round =>
    obtain ⟨j, lA, lc, last, xs, hj, rfl, rfl, HL, HO, HN, HD, HR, HX⟩ := hrel
    by_cases hlt : 8 * j + 8 ≤ n
    · have hat := HO.out.atS len_e8
      have hNC := hat.le
      have hCb := hat.boundc
      obtain ⟨g, hA, hg1, hg2⟩ := HO.out.where_ (by omega) HN.out
      subst hA
      obtain ⟨b3, off3, rfl, _⟩ := HB.out.addr (by omega)
      have ic : 8 * (j : Int) + 8 ≤ (c3 : Int) := by omega
      have jc : ¬ c3 = 8 * j := by omega
      have ic2 : 8 * (j : Int) ≤ (C : Int) := by omega
      have jc2 : ¬ C = 8 * j := by omega
      have e8j : (8 * (j : Int)).toNat = 8 * j := by omega
      have e8k : (8 * (j : Int) + 8).toNat - 8 * j = 8 := by omega
      clear hat
      by_cases he : ev = 0
      · subst he
        have HS : Hid (selB cr 0 j = true) := hide (by simp [selB])
        go_wp2_with fail
        have hcut := (HB.out.cutAt (k := 8 * j) (by omega) (by omega)).upto (k := 8) (by omega)
        rw [Nat.mul_one] at hcut
        obtain ⟨y, hy⟩ : ∃ y, y = (b.drop (8 * j)).take 8 := ⟨_, rfl⟩
        rw [← hy] at hcut
        have HY := hide hy
        have HC := hide hcut
        have HCW := hide (hcut.ext HX.out)
        have HKW := hide (HK.out.ext HX.out)
        have w8 : IntKind.i64.wrap (8 * (j : Int)) = 8 * (j : Int) := by rw [IntKind.wrap_i64]; omega
        have i10 : 8 ≤ n - 8 * j := by omega
        have i11 : (0 : Int) ≤ 8 * (j : Int) := by omega
        have i12 : 8 * (j : Int) ≤ (n : Int) := by omega
        clear hcut hy
        go_region_held3 (fun _ => True) (first | trivial) (first
          | ((go_at_call 86; with_reducible refine (decrypted_any (HKW.out.ext (by repeat' (first | (with_reducible exact Below.refl _ _) | (with_reducible assumption) | (with_reducible refine below_drewN ?_ _) | (with_reducible refine Below.drew ?_) | (with_reducible refine ext_alloc ?_ _) | (with_reducible refine Below.setCell ?_ ?_ _) | go_size))) (HCW.out.ext (by repeat' (first | (with_reducible exact Below.refl _ _) | (with_reducible assumption) | (with_reducible refine below_drewN ?_ _) | (with_reducible refine Below.drew ?_) | (with_reducible refine ext_alloc ?_ _) | (with_reducible refine Below.setCell ?_ ?_ _) | go_size))) (by omega) rfl).mono ?_); rintro e w2 ⟨A2', c2', rfl, o2, e2⟩; have x2 := hide (Ext.trans (show Ext wr _ from (by repeat' (first | (with_reducible exact Below.refl _ _) | (with_reducible assumption) | (with_reducible refine below_drewN ?_ _) | (with_reducible refine Below.drew ?_) | (with_reducible refine ext_alloc ?_ _) | (with_reducible refine Below.setCell ?_ ?_ _) | go_size))) e2); obtain ⟨z, hz⟩ : ∃ z, z = decB l y := ⟨_, rfl⟩; rw [← hz] at o2; have HZ := hide hz; have HZL := hide (show z.length = 8 by rw [hz]; rfl); have P2 := hide (o2.atS len_e8); clear o2 e2 hz)
          | ((go_at_call 82; with_reducible refine (xored_any P2.out (HL.out.ext x2.out) (by omega) (by omega)).mono ?_); rintro e w3 ⟨g3, rfl, o3, e3⟩; rw [xrL8 _ _ HZL.out] at o3; have x3 := hide (Ext.trans x2.out e3); obtain ⟨x, hx⟩ : ∃ x, x = xor8 z last := ⟨_, rfl⟩; rw [← hx] at o3; have HXE := hide hx; have HXL := hide (show x.length = 8 by rw [hx]; rfl); have P3 := hide (o3.atS len_e8); clear o3 e3 hx)
          | ((refine step_copy_ownB rfl (.tmp 45) (.tmp 50) 22 22 rfl 5 Try.underlying22 size8 (base := w.heap.size) (g := g) (N := n) (C := C) (off := 8 * j) (dl := n - 8 * j) (dc := C - 8 * j) (te := 5) (n := 8) (xs := xs) (m := x) (by simp [Act.eval]; done) (by simp [Act.eval]; done) (HO.out.ext x3.out) P3.out i10 (by omega) (by omega) ?_; intro w4 o4 g4; have O4 := hide o4; have G4 := hide g4; clear o4 g4)))
        have N4 : Hid ((spl xs (8 * j) x).length = n) := hide (by rw [length_spl _ _ _ (by rw [HXL.out, HN.out]; omega), HN.out])
        have X4 : Hid (Ext w w4) := hide (Below.grown (Ext.trans HX.out x3.out) G4.out (by have h1 := HX.out.size; have h2 := x3.out.size; omega) (fun k h => by have h' : g = k := Option.some.inj h; omega))
        have L4 := hide (HC.out.ext X4.out)
        have D4 : Hid ((spl xs (8 * j) x).drop (8 * (j + 1)) = b.drop (8 * (j + 1))) := hide (by
          have t2 := spl_drop xs (8 * j) x (by rw [HXL.out, HN.out]; omega)
          rw [HXL.out] at t2
          have t3 := congrArg (List.drop 8) HD.out
          rw [List.drop_drop, List.drop_drop] at t3
          rw [show 8 * (j + 1) = 8 * j + 8 by omega, t2, t3])
        have R4 : Hid ((spl xs (8 * j) x).take (8 * (j + 1)) ++ unG l cr 0 ((n - 8 * (j + 1)) / 8) (j + 1) y (b.drop (8 * (j + 1))) = unG l cr 0 (n / 8) 0 m b) := hide (by
          have t1 := spl_take xs (8 * j) x (by rw [HXL.out, HN.out]; omega)
          rw [HXL.out] at t1
          rw [show 8 * (j + 1) = 8 * j + 8 by omega, t1, ← HR.out]
          have hq : (n - 8 * j) / 8 = (n - (8 * j + 8)) / 8 + 1 := by omega
          rw [hq]
          simp only [unG]
          rw [if_pos HS.out, ← HY.out, ← HZ.out, ← HXE.out, List.append_assoc, List.drop_drop])
        go_wp2
        go_roundw
        case rel =>
          first
            | exact ⟨j + 1, _, _, y, spl xs (8 * j) x, by omega, by go_num, rfl, L4.out, O4.out, N4.out, D4.out, R4.out, X4.out⟩
            | ((repeat apply Exists.intro); exact ⟨⟨j + 1, _, _, y, spl xs (8 * j) x, by omega, by go_num, rfl, L4.out, O4.out, N4.out, D4.out, R4.out, X4.out⟩, rfl⟩)
        case measure => simp [intOf]; omega
      · have hep : ¬ ((ev : Int) = 0) := by omega
        have hjm : (j : Int).tmod (ev : Int) = ((j % ev : Nat) : Int) := by rw [Int.tmod_eq_emod_of_nonneg (by omega)]; rfl
        go_wp2_with fail
        · have hcond : ((ev : Int) == 0) = true ∨ (j : Int) % (ev : Int) < (cr : Int) := by assumption
          have hm : j % ev < cr := by
            rcases hcond with h | h
            · exact absurd (eq_of_beq h) hep
            · exact_mod_cast h
          have HS : Hid (selB cr ev j = true) := hide (by simp [selB, hm])
          have hcut := (HB.out.cutAt (k := 8 * j) (by omega) (by omega)).upto (k := 8) (by omega)
          rw [Nat.mul_one] at hcut
          obtain ⟨y, hy⟩ : ∃ y, y = (b.drop (8 * j)).take 8 := ⟨_, rfl⟩
          rw [← hy] at hcut
          have HY := hide hy
          have HC := hide hcut
          have HCW := hide (hcut.ext HX.out)
          have HKW := hide (HK.out.ext HX.out)
          have w8 : IntKind.i64.wrap (8 * (j : Int)) = 8 * (j : Int) := by rw [IntKind.wrap_i64]; omega
          have i10 : 8 ≤ n - 8 * j := by omega
          have i11 : (0 : Int) ≤ 8 * (j : Int) := by omega
          have i12 : 8 * (j : Int) ≤ (n : Int) := by omega
          clear hcut hy
          go_region_held3 (fun _ => True) (first | trivial) (first
            | ((go_at_call 86; with_reducible refine (decrypted_any (HKW.out.ext (by repeat' (first | (with_reducible exact Below.refl _ _) | (with_reducible assumption) | (with_reducible refine below_drewN ?_ _) | (with_reducible refine Below.drew ?_) | (with_reducible refine ext_alloc ?_ _) | (with_reducible refine Below.setCell ?_ ?_ _) | go_size))) (HCW.out.ext (by repeat' (first | (with_reducible exact Below.refl _ _) | (with_reducible assumption) | (with_reducible refine below_drewN ?_ _) | (with_reducible refine Below.drew ?_) | (with_reducible refine ext_alloc ?_ _) | (with_reducible refine Below.setCell ?_ ?_ _) | go_size))) (by omega) rfl).mono ?_); rintro e w2 ⟨A2', c2', rfl, o2, e2⟩; have x2 := hide (Ext.trans (show Ext wr _ from (by repeat' (first | (with_reducible exact Below.refl _ _) | (with_reducible assumption) | (with_reducible refine below_drewN ?_ _) | (with_reducible refine Below.drew ?_) | (with_reducible refine ext_alloc ?_ _) | (with_reducible refine Below.setCell ?_ ?_ _) | go_size))) e2); obtain ⟨z, hz⟩ : ∃ z, z = decB l y := ⟨_, rfl⟩; rw [← hz] at o2; have HZ := hide hz; have HZL := hide (show z.length = 8 by rw [hz]; rfl); have P2 := hide (o2.atS len_e8); clear o2 e2 hz)
            | ((go_at_call 82; with_reducible refine (xored_any P2.out (HL.out.ext x2.out) (by omega) (by omega)).mono ?_); rintro e w3 ⟨g3, rfl, o3, e3⟩; rw [xrL8 _ _ HZL.out] at o3; have x3 := hide (Ext.trans x2.out e3); obtain ⟨x, hx⟩ : ∃ x, x = xor8 z last := ⟨_, rfl⟩; rw [← hx] at o3; have HXE := hide hx; have HXL := hide (show x.length = 8 by rw [hx]; rfl); have P3 := hide (o3.atS len_e8); clear o3 e3 hx)
            | ((refine step_copy_ownB rfl (.tmp 45) (.tmp 50) 22 22 rfl 5 Try.underlying22 size8 (base := w.heap.size) (g := g) (N := n) (C := C) (off := 8 * j) (dl := n - 8 * j) (dc := C - 8 * j) (te := 5) (n := 8) (xs := xs) (m := x) (by simp [Act.eval]; done) (by simp [Act.eval]; done) (HO.out.ext x3.out) P3.out i10 (by omega) (by omega) ?_; intro w4 o4 g4; have O4 := hide o4; have G4 := hide g4; clear o4 g4)))
          have N4 : Hid ((spl xs (8 * j) x).length = n) := hide (by rw [length_spl _ _ _ (by rw [HXL.out, HN.out]; omega), HN.out])
          have X4 : Hid (Ext w w4) := hide (Below.grown (Ext.trans HX.out x3.out) G4.out (by have h1 := HX.out.size; have h2 := x3.out.size; omega) (fun k h => by have h' : g = k := Option.some.inj h; omega))
          have L4 := hide (HC.out.ext X4.out)
          have D4 : Hid ((spl xs (8 * j) x).drop (8 * (j + 1)) = b.drop (8 * (j + 1))) := hide (by
            have t2 := spl_drop xs (8 * j) x (by rw [HXL.out, HN.out]; omega)
            rw [HXL.out] at t2
            have t3 := congrArg (List.drop 8) HD.out
            rw [List.drop_drop, List.drop_drop] at t3
            rw [show 8 * (j + 1) = 8 * j + 8 by omega, t2, t3])
          have R4 : Hid ((spl xs (8 * j) x).take (8 * (j + 1)) ++ unG l cr ev ((n - 8 * (j + 1)) / 8) (j + 1) y (b.drop (8 * (j + 1))) = unG l cr ev (n / 8) 0 m b) := hide (by
            have t1 := spl_take xs (8 * j) x (by rw [HXL.out, HN.out]; omega)
            rw [HXL.out] at t1
            rw [show 8 * (j + 1) = 8 * j + 8 by omega, t1, ← HR.out]
            have hq : (n - 8 * j) / 8 = (n - (8 * j + 8)) / 8 + 1 := by omega
            rw [hq]
            simp only [unG]
            rw [if_pos HS.out, ← HY.out, ← HZ.out, ← HXE.out, List.append_assoc, List.drop_drop])
          go_wp2
          go_roundw
          case rel =>
            first
              | exact ⟨j + 1, _, _, y, spl xs (8 * j) x, by omega, by go_num, rfl, L4.out, O4.out, N4.out, D4.out, R4.out, X4.out⟩
              | ((repeat apply Exists.intro); exact ⟨⟨j + 1, _, _, y, spl xs (8 * j) x, by omega, by go_num, rfl, L4.out, O4.out, N4.out, D4.out, R4.out, X4.out⟩, rfl⟩)
          case measure => simp [intOf]; omega
        · rename_i hcond
          have hm : ¬ j % ev < cr := by
            have h := hcond.2
            have h' : cr ≤ j % ev := by exact_mod_cast h
            omega
          have R4 : Hid (xs.take (8 * (j + 1)) ++ unG l cr ev ((n - 8 * (j + 1)) / 8) (j + 1) last (b.drop (8 * (j + 1))) = unG l cr ev (n / 8) 0 m b) := hide (by
            rw [show 8 * (j + 1) = 8 * j + 8 by omega, take_split, ← HR.out, HD.out]
            have hq : (n - 8 * j) / 8 = (n - (8 * j + 8)) / 8 + 1 := by omega
            rw [hq]
            simp only [unG]
            rw [if_neg (by simp [selB, he, hm]), List.append_assoc, List.drop_drop])
          have D4 : Hid (xs.drop (8 * (j + 1)) = b.drop (8 * (j + 1))) := hide (by
            have t3 := congrArg (List.drop 8) HD.out
            rw [List.drop_drop, List.drop_drop] at t3
            rw [show 8 * (j + 1) = 8 * j + 8 by omega, t3])
          refine ⟨⟨j + 1, lA, lc, last, xs, by omega, by go_num, rfl, HL.out, HO.out, HN.out, D4.out, R4.out, HX.out⟩, ?_⟩
          simp [intOf]; omega
    · have hfin : unG l cr ev (n / 8) 0 m b = xs := by
        have q := HR.out
        rw [show (n - 8 * j) / 8 = 0 by omega] at q
        simp only [unG] at q
        rw [← q, ← HD.out, List.take_append_drop]
      have HF := hide hfin
      clear hfin
      go_wp2
      go_ret
      exact ⟨_, _, rfl, by rw [HF.out]; exact HO.out.atS len_e8, HX.out⟩
end Go.Proofs.Ytifmgngmkajahaa
