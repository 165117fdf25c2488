/- A law for copy into owned bytes; walks of modeFault, chain, unchain. Conditions: lengths as stated. -/
import Derived.Test.YtifmgngmkajahaaKeyI
import Derived.Test.YtifmgngmkajahaaMem
import Derived.Test.YtifmgngmkajahaaKeyM
import Derived.Test.YtifmgngmkajahaaKeyJ
namespace Go.Proofs.Ytifmgngmkajahaa
open Go.RowKit Kc

theorem own_splice {w : World} {base g N C off n : Nat} {te : TypeId} {xs m : List UInt8} {cur : Array Value} (hg : Blk w g te cur) (hb : base ≤ g) (hNC : N ≤ C) (hCm : C ≤ maxLen) (hcs : cur.size = C) (hl : xs.length = N) (ht : cur.toList.take N = xs.flatMap e8) (hml : m.length = n) (hfit : off + n ≤ N) :
    Own (w.setRow g (cur.toList.take off ++ (m.map B8 ++ cur.toList.drop (off + n))).toArray) base te 1 e8 (.slice (some ⟨g, 0, none⟩) N C) (spl xs off m) := by
  have hsl : (spl xs off m).length = N := by rw [length_spl _ _ _ (by omega), hl]
  have hcl : cur.toList.length = C := by simpa using hcs
  refine ⟨by rw [flat_len len_e8], .inr ⟨g, C, _, by rw [hsl], hb, setRow_heap w g cur _ te (0, 0) hg, by omega, hCm, by simp; omega, ?_⟩⟩
  rw [hsl, Nat.mul_one, flat8, map_spl]
  have e : xs.map B8 = cur.toList.take N := by rw [ht, flat8]
  rw [e]
  simp only [List.length_map, hml]
  rw [List.take_take, Nat.min_eq_left (by omega)]
  rw [← hml]
  simp [List.take_append, List.take_take, List.drop_take, hml, hcl]
  rw [Nat.min_eq_right (by omega), Nat.min_eq_left (by omega), List.take_of_length_le (l := m.map B8) (by simp; omega), Nat.sub_sub]
theorem wpList_copy_ownB {P : Program} {w : World} {ops : Array Oper} {rest : List Oper} {o : Oper} {a : Act} {Q : Exit → Act → World → Prop} (hgd : o.guard = none) (d s : Operand) (dT sT : TypeId)
    (ho : o.op = .call { callee := .builtin .copy, args := #[d, s], argTypes := #[dT, sT] }) (elem : TypeId) (hu : P.underlying dT = some (.slice elem)) (hsz : (P.info? elem).map (·.size) = some 1)
    {base g N C off dl dc : Nat} {te : TypeId} {A : Option Addr} {n c : Nat} {xs m : List UInt8} (hd : a.eval d = .slice (some ⟨g, off, none⟩) dl dc) (hs : a.eval s = .slice A n c)
    (hown : Own w base te 1 e8 (.slice (some ⟨g, 0, none⟩) N C) xs) (hm : At w 1 e8 A n c m) (hn : n ≤ dl) (hn0 : 0 < n) (hfit : off + n ≤ N)
    (h : ∀ w', Own w' base te 1 e8 (.slice (some ⟨g, 0, none⟩) N C) (spl xs off m) → w.grownBy w' (some g) → wpList P ops Q rest (a.put o.dst (goInt n)) w') : wpList P ops Q (o :: rest) a w := by
  obtain ⟨b, so, rfl, hc⟩ := hm.addr hn0
  have hl := hm.len
  obtain ⟨cur, hg, hNC, hCm, hcs, hxl, ht, hb⟩ := hown.row1
  have e : (m.map B8).length = n := by simp [hl]
  refine wpList_copy_own hgd d s dT sT ho elem hu hsz g off dl dc ⟨b, so, none⟩ n c hd hs cur te hg (m.map B8) (by rw [e]; exact (Nat.min_eq_left hn).symm) (fun j v hv => ?_) (by rw [e]; omega) (fun v hv => ?_) ?_
  · have hj : j < m.length := by have := (List.getElem?_eq_some_iff.1 hv).1; simpa using this
    rw [List.getElem?_map, List.getElem?_eq_getElem hj] at hv
    have := hc j hj 0 v (by simpa using hv)
    rw [Addr.add_lit]
    simpa using this
  · obtain ⟨x, _, rfl⟩ := List.mem_map.1 hv
    rfl
  · rw [e]
    refine h _ (own_splice hg hb hNC hCm hcs hxl ht hl hfit) ⟨rfl, rfl, rfl, by simp, fun k _ hk => setRow_other w g k _ (fun e => hk (by rw [e]))⟩

theorem modeFault_ok (A1 A2 A3 : Option Addr) (c1 c2 n3 c3 : Nat) (h : n3 ≤ 100000) (w : World) :
    Calls Try.prog 89 #[.slice A1 16 c1, .slice A2 8 c2, .slice A3 n3 c3] w fun e w' => e = .returned (.int .i64 0) ∧ w = w' := by
  go_enter Try.func89, Try.ntmps89
  go_wp2
  go_ret
  exact ⟨rfl, rfl⟩
/-- The fault of a key, an iv and bytes. -/
def modeF (n1 n2 n3 : Nat) : Int := if ¬ (n1 = 16 ∧ n2 = 8) then 3 else if 100000 < n3 then 2 else 0
theorem modeFault_bad (A1 A2 A3 : Option Addr) (n1 n2 c1 c2 n3 c3 : Nat) (w : World) :
    Calls Try.prog 89 #[.slice A1 n1 c1, .slice A2 n2 c2, .slice A3 n3 c3] w fun e w' => e = .returned (.int .i64 (modeF n1 n2 n3)) ∧ w = w' := by
  unfold modeF
  by_cases h : n1 = 16 ∧ n2 = 8
  · rw [if_neg (by simp [h])]
    obtain ⟨rfl, rfl⟩ := h
    by_cases h3 : 100000 < n3
    · rw [if_pos h3]
      go_enter Try.func89, Try.ntmps89
      go_wp2
      go_ret
      exact ⟨rfl, rfl⟩
    · rw [if_neg h3]
      exact modeFault_ok _ _ _ _ _ _ _ (by omega) _
  · rw [if_pos h]
    by_cases h1 : n1 = 16
    · subst h1
      have h2 : ((n2 : Int) != 8) = true := neq_b (by omega)
      clear h
      go_enter Try.func89, Try.ntmps89
      go_wp2
      go_ret
      exact ⟨rfl, rfl⟩
    · have h2 : ((n1 : Int) != 16) = true := neq_b (by omega)
      clear h h1
      go_enter Try.func89, Try.ntmps89
      go_wp2
      go_ret
      exact ⟨rfl, rfl⟩

set_option maxRecDepth 100000 in
set_option maxHeartbeats 2000000 in
theorem chain_own {A1 A2 : Option Addr} {c1 c2 : Nat} {l m xs : List UInt8} {w : World} {base g N C off : Nat} (h1 : At w 1 e8 A1 16 c1 l) (h2 : At w 1 e8 A2 8 c2 m)
    (ho : Own w base 5 1 e8 (.slice (some ⟨g, 0, none⟩) N C) xs) (hoff : off + 8 ≤ N) :
    Calls Try.prog 90 #[.slice A1 16 c1, .slice A2 8 c2, .slice (some ⟨g, off, none⟩) (N - off) (C - off)] w fun e w' => e = .returned (.slice (some ⟨g, off, none⟩) 8 (C - off)) ∧
      Own w' base 5 1 e8 (.slice (some ⟨g, 0, none⟩) N C) (spl xs off (encB l (xor8 ((xs.drop off).take 8) m))) ∧ w.grownBy w' (some g) := by
  have hat := ho.atS len_e8
  have hNC := hat.le
  have hbd := hat.boundc
  have hx0 := (hat.cutAt (k := off) (by omega) (by omega)).upto (k := 8) (by omega)
  rw [Nat.mul_one, Nat.zero_add] at hx0
  have H1 := hide h1; have H2 := hide h2; have HO := hide ho; have HX0 := hide hx0
  have hgl := (ho.lt g rfl).2
  have i8 : (8 : Int) ≤ ((C - off : Nat) : Int) := by omega
  have i9 : 8 ≤ C - off := by omega
  have i10 : 8 ≤ N - off := by omega
  clear h1 h2 ho hx0 hat
  go_enter Try.func90, Try.ntmps90
  go_wp2_with fail
  refine (xor_any HX0.out H2.out (by omega) (by omega)).mono ?_
  rintro e w1 ⟨rfl, e1⟩
  have hl1 : (xor8 ((xs.drop off).take 8) m).length = 8 := rfl
  generalize hx1 : xor8 ((xs.drop off).take 8) m = x1 at *
  have HXX := hide hx1; have HL1 := hide hl1; have E1 := hide e1
  clear hx1 hl1 e1
  go_wp2_with fail
  refine gen_calls fun W1 hW1 => ?_
  have A3 : Hid (At W1 1 e8 (some ⟨w1.heap.size, 0, none⟩) 8 8 x1) := hide (by rw [hW1]; exact At.new8 w1 x1 HL1.out 98)
  have B3 : Hid (Blk W1 w1.heap.size 98 #[B8 (x1.getD 0 0), B8 (x1.getD 1 0), B8 (x1.getD 2 0), B8 (x1.getD 3 0), B8 (x1.getD 4 0), B8 (x1.getD 5 0), B8 (x1.getD 6 0), B8 (x1.getD 7 0)]) := hide (by rw [hW1]; exact Blk.new w1 _ _)
  have EW : Hid (Ext w W1) := hide (by have h1 := E1.out; rw [hW1]; exact ext_alloc h1 _)
  have z1 : w.heap.size ≤ w1.heap.size := E1.out.size
  clear hW1
  refine (encrypt_any (H1.out.ext EW.out) A3.out (by omega) (by omega)).mono ?_
  rintro e w2 ⟨rfl, e2⟩
  have hl2 : (encB l x1).length = 8 := rfl
  generalize hx2 : encB l x1 = x2 at *
  have HX2 := hide hx2; have HL2 := hide hl2
  have E2 := hide (Ext.trans EW.out e2)
  have B4 := B3.out.ext e2
  have fz := B4.frozen; have q0 := B4.cell 0; have q1 := B4.cell 1; have q2 := B4.cell 2; have q3 := B4.cell 3; have q4 := B4.cell 4; have q5 := B4.cell 5; have q6 := B4.cell 6; have q7 := B4.cell 7
  have HB4 := hide B4
  clear hx2 hl2 e2 B4 A3 B3
  simp only [List.getElem?_toArray, List.getElem?_cons_zero, List.getElem?_cons_succ] at q0 q1 q2 q3 q4 q5 q6 q7
  have B5 := HB4.out.set8 (B8 (x2.getD 0 0)) (B8 (x2.getD 1 0)) (B8 (x2.getD 2 0)) (B8 (x2.getD 3 0)) (B8 (x2.getD 4 0)) (B8 (x2.getD 5 0)) (B8 (x2.getD 6 0)) (B8 (x2.getD 7 0))
  rw [arr8 x2 HL2.out] at B5
  have A5 := At.blk B5 (by rw [HL2.out]; unfold maxLen; omega)
  rw [HL2.out] at A5
  have HA5 := hide A5
  clear A5 B5
  go_wp2_with (refine wpList_copy_ownB (o := ⟨some 17, _, _, _, _, _⟩) rfl (.tmp 15) (.tmp 16) 22 22 rfl 5 Try.underlying22 size8 (base := base) (g := g) (N := N) (C := C) (off := off) (te := 5) (n := 8) (xs := xs) (m := x2) rfl rfl ?own ?at_ i10 (by omega) (by omega) ?_; rotate_left 2; intro W4 o4 g4; have O4 := hide o4; have G4 := hide g4; clear o4 g4)
  case own => exact HO.out.ext (by have h := E2.out; exact (by repeat' (first | (with_reducible exact Below.refl _ _) | (with_reducible assumption) | (with_reducible refine below_drewN ?_ _) | (with_reducible refine Below.drew ?_) | (with_reducible refine ext_alloc ?_ _) | (with_reducible refine Below.setCell ?_ ?_ _) | go_size)))
  case at_ => exact HA5.out
  go_ret
  refine ⟨rfl, ?_, ?_⟩
  · rw [HXX.out, HX2.out]; exact O4.out
  · exact (ext_grown (by have h := E2.out; exact (by repeat' (first | (with_reducible exact Below.refl _ _) | (with_reducible assumption) | (with_reducible refine below_drewN ?_ _) | (with_reducible refine Below.drew ?_) | (with_reducible refine ext_alloc ?_ _) | (with_reducible refine Below.setCell ?_ ?_ _) | go_size))) (some g)).trans G4.out

/-- The block that unchain gives back, and what it leaves. -/
def UnchPost (w : World) (base g N C off : Nat) (l m xs : List UInt8) (e : Ending) (w' : World) : Prop :=
  ∃ A c, e = .returned (.slice A 8 c) ∧ At w' 1 e8 A 8 c ((xs.drop off).take 8) ∧ (∀ a, A = some a → w.heap.size ≤ a.block) ∧
    Own w' base 5 1 e8 (.slice (some ⟨g, 0, none⟩) N C) (spl xs off (xor8 (decB l ((xs.drop off).take 8)) m)) ∧ w.grownBy w' (some g)
set_option maxRecDepth 100000 in
set_option maxHeartbeats 2000000 in
theorem unchain_own {A1 A2 : Option Addr} {c1 c2 : Nat} {l m xs : List UInt8} {w : World} {base g N C off : Nat} (h1 : At w 1 e8 A1 16 c1 l) (h2 : At w 1 e8 A2 8 c2 m)
    (ho : Own w base 5 1 e8 (.slice (some ⟨g, 0, none⟩) N C) xs) (hoff : off + 8 ≤ N) :
    Calls Try.prog 91 #[.slice A1 16 c1, .slice A2 8 c2, .slice (some ⟨g, off, none⟩) (N - off) (C - off)] w (UnchPost w base g N C off l m xs) := by
  obtain ⟨i0, hi0, hz0, hz1, hz2⟩ := info_parts Try.info5
  have hat := ho.atS len_e8
  have hNC := hat.le
  have hbd := hat.boundc
  have hx0 := (hat.cutAt (k := off) (by omega) (by omega)).upto (k := 8) (by omega)
  rw [Nat.mul_one, Nat.zero_add] at hx0
  obtain ⟨y, hy⟩ : ∃ y, y = (xs.drop off).take 8 := ⟨_, rfl⟩
  rw [← hy] at hx0
  have hyl := hx0.len
  have H1 := hide h1; have H2 := hide h2; have HO := hide ho; have HX0 := hide hx0; have HY := hide hy; have HYL := hide hyl
  have hgl := (ho.lt g rfl).2
  have i8 : (8 : Int) ≤ ((C - off : Nat) : Int) := by omega
  have i9 : 8 ≤ C - off := by omega
  have i10 : 8 ≤ N - off := by omega
  clear h1 h2 ho hx0 hat hy hyl
  go_enter Try.func91, Try.ntmps91
  go_wp2_with (at_builtin; refine wpList_append_at _ rfl (.const (.slice none 0 0)) (.tmp 10) 22 rfl w.heap.size 5 i0 _ 1 Try.underlying22 hi0 hz0 hz1 hz2 rfl (by omega) len_e8 one_e8 (.slice none 0 0) [] rfl (Own.nil _ _ _ _ _) (some ⟨g, off, none⟩) 8 (C - off) y rfl HX0.out ?b1 ?b2 ?b3 ?_)
  case b1 => simp; unfold maxLen; omega
  case b2 => simp
  case b3 => exact Nat.le_refl _
  intro v1 w1 o1 g1 _ _
  have X1 : Ext w w1 := (Own.nil w w.heap.size 5 1 e8).below (Ext.refl w) g1 (Nat.le_refl _)
  have o1' : Own w1 w.heap.size 5 1 e8 v1 y := o1
  obtain ⟨A1', c1', hv1, _⟩ := o1'.at_ len_e8
  rw [HYL.out] at hv1
  rw [hv1] at o1' ⊢
  have P1 := hide (o1'.atS len_e8)
  have hbp : Hid (∀ a, A1' = some a → w.heap.size ≤ a.block) := hide (fun a ha => by
    have := o1'.lt a.block (by rw [ha]; rfl)
    exact this.1)
  have E1 := hide X1
  clear o1 g1 X1 o1' hv1
  go_wp2_with fail
  refine (decrypt_any (H1.out.ext E1.out) P1.out (by omega) (by omega)).mono ?_
  rintro e w2 ⟨rfl, e2⟩
  have hl2 : (decB l y).length = 8 := rfl
  generalize hx2 : decB l y = x2 at *
  have HX2 := hide hx2; have HL2 := hide hl2
  have E2 := hide (Ext.trans E1.out e2)
  have P2 := hide (P1.out.ext e2)
  have z2 := e2.size
  have z1 := E1.out.size
  have hplt : Hid (∀ a, A1' = some a → a.block < w2.heap.size) := hide (fun a ha => by
    obtain ⟨b, o, hb, hc⟩ := P2.out.addr (by omega)
    rw [hb] at ha
    injection ha with ha
    subst ha
    have hl := P2.out.len
    exact cell_lt (hc 0 (by omega) 0 _ rfl))
  clear hx2 hl2 e2 P1
  go_wp2_with fail
  refine gen_calls fun W1 hW1 => ?_
  have A3 : Hid (At W1 1 e8 (some ⟨w2.heap.size, 0, none⟩) 8 8 x2) := hide (by rw [hW1]; exact At.new8 w2 x2 HL2.out 98)
  have B3 : Hid (Blk W1 w2.heap.size 98 #[B8 (x2.getD 0 0), B8 (x2.getD 1 0), B8 (x2.getD 2 0), B8 (x2.getD 3 0), B8 (x2.getD 4 0), B8 (x2.getD 5 0), B8 (x2.getD 6 0), B8 (x2.getD 7 0)]) := hide (by rw [hW1]; exact Blk.new w2 _ _)
  have EW2 : Ext w2 W1 := by rw [hW1]; exact Ext.alloc _ _
  have P3 := hide (P2.out.ext EW2)
  have EW := hide (Ext.trans E2.out EW2)
  clear hW1 EW2 P2
  refine (xor_any A3.out (H2.out.ext EW.out) (by omega) (by omega)).mono ?_
  rintro e w3 ⟨rfl, e3⟩
  have hl3 : (xor8 x2 m).length = 8 := rfl
  generalize hx3 : xor8 x2 m = x3 at *
  have HX3 := hide hx3; have HL3 := hide hl3
  have E3 := hide (Ext.trans EW.out e3)
  have P4 := hide (P3.out.ext e3)
  have B4 := B3.out.ext e3
  have fz := B4.frozen; have q0 := B4.cell 0; have q1 := B4.cell 1; have q2 := B4.cell 2; have q3 := B4.cell 3; have q4 := B4.cell 4; have q5 := B4.cell 5; have q6 := B4.cell 6; have q7 := B4.cell 7
  have B5 := B4.set8 (B8 (x3.getD 0 0)) (B8 (x3.getD 1 0)) (B8 (x3.getD 2 0)) (B8 (x3.getD 3 0)) (B8 (x3.getD 4 0)) (B8 (x3.getD 5 0)) (B8 (x3.getD 6 0)) (B8 (x3.getD 7 0))
  rw [arr8 x3 HL3.out] at B5
  have A5 := At.blk B5 (by rw [HL3.out]; unfold maxLen; omega)
  rw [HL3.out] at A5
  have HA5 := hide A5
  clear hx3 hl3 e3 B4 A3 B3 A5 B5 P3
  simp only [List.getElem?_toArray, List.getElem?_cons_zero, List.getElem?_cons_succ] at q0 q1 q2 q3 q4 q5 q6 q7
  go_wp2_with (refine wpList_copy_ownB (o := ⟨some 20, _, _, _, _, _⟩) rfl (.tmp 18) (.tmp 19) 22 22 rfl 5 Try.underlying22 size8 (base := base) (g := g) (N := N) (C := C) (off := off) (te := 5) (n := 8) (xs := xs) (m := x3) rfl rfl ?own ?at_ i10 (by omega) (by omega) ?_; rotate_left 2; intro W4 o4 g4; have O4 := hide o4; have G4 := hide g4; clear o4 g4)
  case own => exact HO.out.ext (by have h := E3.out; exact (by repeat' (first | (with_reducible exact Below.refl _ _) | (with_reducible assumption) | (with_reducible refine below_drewN ?_ _) | (with_reducible refine Below.drew ?_) | (with_reducible refine ext_alloc ?_ _) | (with_reducible refine Below.setCell ?_ ?_ _) | go_size)))
  case at_ => exact HA5.out
  go_ret
  refine ⟨A1', c1', rfl, ?_, hbp.out, ?_, ?_⟩
  · rw [← HY.out]
    refine At.grown ?_ G4.out (fun a ha => ?_)
    · refine At.grown P4.out (((((((((grown_set _ w2.heap.size _ _).trans (grown_set _ _ _ _)).trans (grown_set _ _ _ _)).trans (grown_set _ _ _ _)).trans (grown_set _ _ _ _)).trans (grown_set _ _ _ _)).trans (grown_set _ _ _ _)).trans (grown_set _ _ _ _))) (fun a ha => ?_)
      have := hplt.out a ha
      intro hh; injection hh with hh; omega
    · have := hbp.out a ha
      intro hh; injection hh with hh; omega
  · rw [← HY.out, HX2.out, HX3.out]; exact O4.out
  · exact (ext_grown (by have h := E3.out; exact (by repeat' (first | (with_reducible exact Below.refl _ _) | (with_reducible assumption) | (with_reducible refine below_drewN ?_ _) | (with_reducible refine Below.drew ?_) | (with_reducible refine ext_alloc ?_ _) | (with_reducible refine Below.setCell ?_ ?_ _) | go_size))) (some g)).trans G4.out
end Go.Proofs.Ytifmgngmkajahaa
