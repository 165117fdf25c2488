/- Several texts in one: Walk: appendBox (program). Conditions as stated; Walk: appendBox (program). Conditions as stated; Walk: the fault of boxes (program's counter). Conditions as stated. -/
import Derived.Test.YtkbmgakehlmcnaaMtq40
import Derived.Test.YtkbmgakehlmcnaaMtq20
import Derived.Test.YtkbmgakehlmcnaaMtq37
import Derived.Lib.AppendStr
import Derived.Deep.CutBlock
import Derived.Test.YtkbmgakehlmcnaaMtq01
namespace Go.Proofs.Ytkbmgakehlmcnaa
open Go.RowKit
theorem strCells_mk (k : List UInt8) : Go.Lib.strCells ⟨k.toArray⟩ = k.flatMap e8 := by
  rw [flat8]; simp [Go.Lib.strCells]
theorem step_append_str {P : Program} {w : World} {ops : Array Oper} {o : Oper} {a : Act} {K : Act → World → Prop} {Q : Exit → Act → World → Prop} {E : Prop} (hgd : o.guard = none) (sl x : Operand) (t u : TypeId)
    (ho : o.op = .call { callee := .builtin .append, args := #[sl, x], argTypes := #[t, u] })
    (base : Nat) (e : TypeId) (i : TypeInfo) (ht : P.underlying t = some (.slice e)) (hu : P.underlying u = some .string) (hi : P.info? e = some i) (hz : i.zero = some (.int .u8 0))
    (hsize : i.size = 1) (hby : i.bytes = 1)
    (v : Value) (xs : List UInt8) (hs : a.eval sl = v) (hown : Own w base e 1 e8 v xs) (k : List UInt8) (hx : a.eval x = .string ⟨k.toArray⟩)
    (h63 : xs.length + k.length ≤ maxLen) (hbytes : xs.length + k.length ≤ 140737488355328) (hbase : base ≤ w.heap.size)
    (h : ∀ v' w', Own w' base e 1 e8 v' (xs ++ k) → w.grownBy w' v.ownBlock → (v'.ownBlock = v.ownBlock ∨ ∃ g, v'.ownBlock = some g ∧ w.heap.size ≤ g) → K (a.put o.dst v') w') :
    if Region.wanted o (yielded ops a.tmps) = true then Oper.wp P o a w K Q else E := by
  have hw : Region.wanted o (yielded ops a.tmps) = true := by simp [Region.wanted, hgd]
  rw [if_pos hw]
  have hsz : (⟨k.toArray⟩ : ByteArray).size = k.length := by show k.toArray.size = _; simp
  obtain ⟨v', w', hr, h2, h3, h4⟩ := Go.Lib.run_append_own_string (P := P) (w := w) base t u o.type e i ht hu hi hz hsize hby v xs.length _ hown ⟨k.toArray⟩ (by rw [hsz]; exact h63) (by rw [hsz]; exact hbytes) hbase
  unfold Oper.wp execOp
  simp only [ho, resolve, invoke, builtin, Sem.run_bind, Sem.run_pure, Result.andThen_ok, List.map_toArray, List.map_cons, List.map_nil, hs, hx, hr]
  refine h v' w' ?_ h3 ?_
  · unfold Own
    rw [List.length_append, List.flatMap_append, ← strCells_mk k, ← hsz]
    exact h2
  · have hu' : w.ownsRow base e 1 v xs.length (xs.flatMap e8) := by unfold Own at hown; exact hown
    rcases hu'.2 with ⟨rfl, hn⟩ | ⟨g, cap, cur, rfl, hbg, hg, hnc, hcm, hcs, htake⟩
    · have hx0 : xs = [] := List.eq_nil_of_length_eq_zero hn
      subst hx0
      obtain ⟨v2, w2, hr2, k2, _, _⟩ := Go.Lib.run_append_own_string (P := P) (w := w) w.heap.size t u o.type e i ht hu hi hz hsize hby (.slice none 0 0) 0 _ (World.ownsRow_nil w w.heap.size e 1) ⟨k.toArray⟩ (by rw [hsz]; simpa using h63) (by rw [hsz]; simpa using hbytes) (Nat.le_refl _)
      rw [hr] at hr2
      injection hr2 with e1 e2
      subst e1
      rcases k2.2 with ⟨rfl, _⟩ | ⟨g, cap, cur, rfl, hbg, _⟩
      · exact .inl rfl
      · exact .inr ⟨g, rfl, hbg⟩
    · have hxl : (xs.flatMap e8).length = xs.length := by rw [flat8]; simp
      by_cases hroom : xs.length + (⟨k.toArray⟩ : ByteArray).size ≤ cap
      · have hr2 := Go.Lib.run_append_room_string (P := P) w t u o.type e i ht hu hi hsize g xs.length cap cur hg ⟨k.toArray⟩ hroom (by rw [hsz]; simp only [maxLen] at h63; omega)
        rw [hr] at hr2
        injection hr2 with e1 e2
        subst e1
        exact .inl rfl
      · have holds : ∀ j u, (xs.flatMap e8)[j]? = some u → w.cell? ((⟨g, 0, none⟩ : Addr).add j) = some u := hu'.cells (g := g) rfl
        have hr2 := Go.Lib.run_append_grow_string (P := P) w t u o.type e i (.int .u8 0) ht hu hi hz ⟨g, 0, none⟩ xs.length cap _ (by rw [hsize]; simpa using hxl) holds ⟨k.toArray⟩ (by omega) (by rw [hsz]; simp only [maxLen] at h63; omega) (by rw [hby]; exact growslice_fits (by rw [hsz]; omega) (by rw [hsz]; omega))
        rw [hr] at hr2
        injection hr2 with e1 e2
        subst e1
        exact .inr ⟨_, rfl, Nat.le_refl _⟩
theorem bytT_eq (x : BoxT) : bytT x = headB x.kind x.form (sizeT x) ++ x.data ++ bytL x.kids := by cases x; rw [bytT, sizeT]; rfl
theorem Ext.gr {w W W' : World} {row : Option Nat} (h : Ext w W) (g : W.grownBy W' row) (hn : ∀ b, row = some b → w.heap.size ≤ b) : Ext w W' :=
  ⟨g.os.trans h.os, g.tape.trans h.tape, g.output.trans h.output, Nat.le_trans h.size g.size, fun q hq => (g.block q (Nat.lt_of_lt_of_le hq h.size) (fun e => by have := hn q e.symm; omega)).trans (h.block q hq)⟩
theorem Own.from {w : World} {base : Nat} {t : TypeId} {v : Value} {l : List UInt8} (h : Own w base t 1 e8 v l) : ∀ b, v.ownBlock = some b → base ≤ b ∧ b < w.heap.size := by
  unfold Own at h
  rcases h.2 with ⟨rfl, _⟩ | ⟨g, cap, cur, rfl, hb, hg, _⟩
  · intro b hb; cases hb
  · intro b e; cases e
    refine ⟨hb, ?_⟩
    rcases Nat.lt_or_ge g w.heap.size with hlt | hge
    · exact hlt
    · rw [Array.getElem?_eq_none hge] at hg; cases hg
theorem Grw.ext {a b c : World} {u v : Value} (h : Grw a b u v) (k : Ext b c) : Grw a c u v := h.trans (Grw.ahead k (Grw.refl _ _))
theorem Grw.drew {a b : World} {u v : Value} (h : Grw a b u v) : Grw a (World.drew b) u v := h.ext (Ext.drew _)
theorem bytL_app : ∀ (a b : List BoxT), bytL (a ++ b) = bytL a ++ bytL b
  | [], b => by rw [List.nil_append, bytL, List.nil_append]
  | x :: a, b => by rw [List.cons_append, bytL, bytL, bytL_app a b, List.append_assoc]
theorem bytL_take {l : List BoxT} {k : Nat} (h : k < l.length) : bytL (l.take (k + 1)) = bytL (l.take k) ++ bytT l[k] := by
  rw [List.take_succ_eq_append_getElem h, bytL_app, bytL, bytL, List.append_nil]
theorem bytL_le (l : List BoxT) (k : Nat) : (bytL (l.take k)).length ≤ (bytL l).length := by
  conv => rhs; rw [← List.take_append_drop k l, bytL_app, List.length_append]
  omega
def AppStmt (s : Nat) : Prop := ∀ {x : BoxT} {y : BoxH} {w W : World} {G : Nat → Prop} {base : Nat} {v : Value} {acc : List UInt8}, SizeOf.sizeOf x ≤ s → BxHd w G y x → BxsAt w G y.kA y.kn y.kc x.kids → Ext w W → w.heap.size ≤ base → base ≤ W.heap.size →
  Own W base 5 1 e8 v acc → sizeT x < 4611686018427387904 → acc.length + (bytT x).length ≤ 1000000000 →
  Calls Try.prog 51 #[v, bxV y x] W (GrGives W base v (acc ++ bytT x))
set_option linter.unusedVariables false in
set_option linter.unusedSimpArgs false in
set_option maxRecDepth 100000 in
set_option maxHeartbeats 8000000 in
theorem app_step (s : Nat) (ih : ∀ s', s' < s → AppStmt s') : AppStmt s := by
  intro x y w W G base v acc hs hh hk he hb1 hb2 ho hsz hln
  have HSZ : Hid (Calls Try.prog 23 #[.agg #[.string ⟨x.kind.toArray⟩, .int .i64 x.form, .slice y.dA y.dn y.dc, .slice y.kA y.kn y.kc]] (W.alloc (.cells #[.string ⟨x.kind.toArray⟩, .int .i64 x.form, .slice y.dA y.dn y.dc, .slice y.kA y.kn y.kc] 66)) (fun e w' => e = .returned (.int .i64 (sizeT x : Int)) ∧ Ext (W.alloc (.cells #[.string ⟨x.kind.toArray⟩, .int .i64 x.form, .slice y.dA y.dn y.dc, .slice y.kA y.kn y.kc] 66)) w')) := hide (size_any _ (Nat.le_refl _) (hh.ext (Ext.trans he (Ext.alloc W (.cells #[.string ⟨x.kind.toArray⟩, .int .i64 x.form, .slice y.dA y.dn y.dc, .slice y.kA y.kn y.kc] 66)))) (hk.ext (Ext.trans he (Ext.alloc W (.cells #[.string ⟨x.kind.toArray⟩, .int .i64 x.form, .slice y.dA y.dn y.dc, .slice y.kA y.kn y.kc] 66)))) hsz)
  show Calls Try.prog 51 #[v, .agg #[.string ⟨x.kind.toArray⟩, .int .i64 x.form, .slice y.dA y.dn y.dc, .slice y.kA y.kn y.kc]] W _
  have HFR := ho.from
  have E0 := hide (Ext.alloc W (.cells #[.string ⟨x.kind.toArray⟩, .int .i64 x.form, .slice y.dA y.dn y.dc, .slice y.kA y.kn y.kc] 66))
  have X0 := hide (Blk.new W 66 #[.string ⟨x.kind.toArray⟩, .int .i64 x.form, .slice y.dA y.dn y.dc, .slice y.kA y.kn y.kc])
  obtain ⟨i0_, hi0, hz0, hz1, hz2⟩ := info_parts Try.info5
  have hbe := bytT_eq x
  have HBE := hide hbe
  have hbl : acc.length + (headB x.kind x.form (sizeT x)).length + x.data.length + (bytL x.kids).length ≤ 1000000000 := by
    have := hln; rw [hbe, List.length_append, List.length_append] at this; omega
  have HBL := hide hbl
  have HOW := hide ho
  have HHD := hide hh
  have HKD := hide hk
  have HSS := hide hsz
  have HS1 := hide hs
  have IH := hide ih
  have HE := hide he
  have u3 : IntKind.u64.wrap ((sizeT x : Nat) : Int) = ((sizeT x : Nat) : Int) := by rw [IntKind.wrap_u64]; omega
  clear ho hh hk hsz hs ih he hbe hbl hln
  generalize hS : sizeT x = S at *
  generalize hxf : x.form = xf at *
  generalize hxk : x.kind = xk at *
  have HK1 := hide hS
  have HK2 := hide hxf
  have HK3 := hide hxk
  clear hS hxf hxk
  go_enter Try.func51, Try.ntmps51
  go_upto_region 1 with (fail)
  refine gen_wpC fun w0 h0 => ?_
  have F0 : Hid (Ext W w0) := hide (by rw [h0]; exact E0.out)
  have Z0 : Hid (w0.heap.size = W.heap.size + 1) := hide (by rw [h0]; simp)
  have Y0 := hide (show Blk w0 W.heap.size 66 #[.string ⟨xk.toArray⟩, .int .i64 xf, .slice y.dA y.dn y.dc, .slice y.kA y.kn y.kc] from by rw [h0]; exact X0.out)
  rw [← h0] at HSZ
  clear h0 E0 X0
  have HEX : Hid (∀ X r, Grw w0 X v r → Ext w X) := hide (fun X r g => Ext.gr (Ext.trans HE.out F0.out) g.grown (fun b hb => by have := HFR b hb; omega))
  have HBX : Hid (∀ X r, Grw w0 X v r → Blk X W.heap.size 66 #[.string ⟨xk.toArray⟩, .int .i64 xf, .slice y.dA y.dn y.dc, .slice y.kA y.kn y.kc]) := hide (fun X r g => (g.grown.block _ (by have := Z0.out; omega) (fun e => by have := (HFR _ e.symm).2; omega)).trans Y0.out)
  have HSX : Hid (∀ X r, Grw w0 X v r → base ≤ X.heap.size) := hide (fun X r g => by have := g.grown.size; have := Z0.out; omega)
  have HGW : Hid (∀ X r, Grw w0 X v r → Grw W X v r) := hide (fun X r g => Grw.ahead F0.out g)
  have y0 : w0.cell? ⟨W.heap.size, 0, none⟩ = some (.string ⟨xk.toArray⟩) := Y0.out.cell 0
  have y1 : w0.cell? ⟨W.heap.size, 1, none⟩ = some (.int .i64 xf) := Y0.out.cell 1
  have y2 : w0.cell? ⟨W.heap.size, 2, none⟩ = some (.slice y.dA y.dn y.dc) := Y0.out.cell 2
  have y3 : w0.cell? ⟨W.heap.size, 3, none⟩ = some (.slice y.kA y.kn y.kc) := Y0.out.cell 3
  go_upto_region 2 with (with_reducible refine HSZ.out.mono ?_; rintro e w1 ⟨rfl, e1⟩; have E1 := hide e1; clear e1)
  have G1 := hide (Grw.ahead E1.out (Grw.refl w1 v))
  have B1 := hide (HBX.out _ _ G1.out)
  have O1 := hide ((HOW.out.ext F0.out).ext E1.out)
  clear E1 y0 y1 y2 y3
  have y1 : w1.cell? ⟨W.heap.size, 1, none⟩ = some (.int .i64 xf) := B1.out.cell 1
  go_upto_block 0 with (fail)
  go_cut [6] (fun r6 wx => r6 = .int .u64 ((firstN xf S : Nat) : Int) ∧ w1 = wx)
  case first =>
    by_cases hf : xf = 1
    · have HF1 : Hid (((firstN xf S : Nat) : Int) = 1) := hide (by unfold firstN; rw [if_pos hf]; rfl)
      subst hf
      go_wp2_with fail
      go_meet
      exact ⟨by rw [HF1.out], rfl⟩
    · have d0 : (xf == 1) = false := by rw [beq_eq_false_iff_ne]; exact hf
      by_cases hf2 : xf = 2
      · have HF1 : Hid (((firstN xf S : Nat) : Int) = 0) := hide (by unfold firstN; rw [if_neg hf, if_pos hf2]; rfl)
        subst hf2
        go_wp2_with fail
        go_meet
        exact ⟨by rw [HF1.out], rfl⟩
      · have d1 : (xf == 2) = false := by rw [beq_eq_false_iff_ne]; exact hf2
        have HFN : Hid (((firstN xf S : Nat) : Int) = (S : Int)) := hide (by unfold firstN; rw [if_neg hf, if_neg hf2])
        go_wp2_with fail
        go_meet
        exact ⟨by rw [HFN.out], rfl⟩
  case rest =>
  obtain ⟨rfl, rfl⟩ := hcut
  have hfn : firstN xf S < 18446744073709551616 := by unfold firstN; have := HSS.out; (split; omega; split <;> omega)
  have hac : acc.length ≤ 1000000000 := by have := HBL.out; omega
  have HHL : Hid ((headB xk xf S).length = 4 + xk.length + (if xf = 1 then 8 else 0)) := hide (by unfold headB; rw [List.length_append, List.length_append, beN_len]; by_cases hf : xf = 1 <;> simp [hf, beN_len])
  have L3a : (acc ++ beN 4 (firstN xf S)).length + xk.length ≤ maxLen := by rw [List.length_append, beN_len]; have := HBL.out; have := HHL.out; unfold maxLen; omega
  have L3b : (acc ++ beN 4 (firstN xf S)).length + xk.length ≤ 140737488355328 := by rw [List.length_append, beN_len]; have := HBL.out; have := HHL.out; omega
  have HHB : Hid (headB xk xf S = beN 4 (firstN xf S) ++ xk ++ (if xf = 1 then beN 8 S else [])) := hide rfl
  generalize hFN : firstN xf S = fn at *
  clear y1
  go_upto_region 8 with (fail)
  have hS0 : (World.drew w1).cell? ⟨W.heap.size, 0, none⟩ = some (.string ⟨xk.toArray⟩) := (Ext.drew _).cell (B1.out.cell 0)
  refine wp_region_held_drew (S := fun V => V.cell? ⟨W.heap.size, 0, none⟩ = some (.string ⟨xk.toArray⟩)) (by kernel_rfl) hS0 (fun hS => ?_)
  have G2 := hide (Grw.drew G1.out)
  have O2 := hide (O1.out.ext (Ext.drew w1))
  refine held_take (i := 0) (d := 19) (oi := _) (v := ?_) rfl rfl (by kernel_rfl) (by kernel_rfl) (by kernel_rfl) (fun _ _ _ h => h) (Or.inl ⟨by rfl, ?_⟩) hS ?_
  rotate_left
  · intro W hW; first | (go_simp; done) | (go_simp; with_reducible rfl)
  try simp only [Act.put, List.setIfInBounds_toArray, List.set_cons_zero, List.set_cons_succ]
  refine held_take (i := 1) (d := 20) (oi := _) (v := ?_) rfl rfl (by kernel_rfl) (by kernel_rfl) (by kernel_rfl) (fun _ _ _ h => h) (Or.inl ⟨by rfl, ?_⟩) hS ?_
  rotate_left
  · intro W hW; first | (go_simp; done) | (go_simp; with_reducible rfl)
  try simp only [Act.put, List.setIfInBounds_toArray, List.set_cons_zero, List.set_cons_succ]
  refine held_take (i := 3) (d := 22) (oi := _) (v := ?_) rfl rfl (by kernel_rfl) (by kernel_rfl) (by kernel_rfl) (fun _ _ _ h => h) (Or.inl ⟨by rfl, ?_⟩) hS ?_
  rotate_left
  · intro W hW; first | (go_simp; done) | (go_simp; with_reducible rfl)
  try simp only [Act.put, List.setIfInBounds_toArray, List.set_cons_zero, List.set_cons_succ]
  refine held_take (i := 4) (d := 23) (oi := _) (v := ?_) rfl rfl (by kernel_rfl) (by kernel_rfl) (by kernel_rfl) (fun _ _ _ h => h) (Or.inl ⟨by rfl, ?_⟩) hS ?_
  rotate_left
  · intro W hW; first | (go_simp; done) | (go_simp; with_reducible rfl)
  try simp only [Act.put, List.setIfInBounds_toArray, List.set_cons_zero, List.set_cons_succ]
  refine wpAnyH_ready (rs := [2]) (by kernel_rfl) (by simp) (AllReadyH.cons rfl (fun K hK => ?_) AllReadyH.nil)
  go_simp
  go_at_call 47
  with_reducible refine (appendNumberG (many := 4) (z := 4) O2.out (HSX.out _ _ G2.out) rfl (by omega) hfn hac).mono ?_
  rintro e w2 ⟨v2, rfl, o2, gr2⟩
  have O3 := hide o2
  have G3 := hide (G2.out.trans gr2)
  refine hK.out _ _ ((HBX.out _ _ G3.out).cell 0) (fun hS => ?_)
  clear o2 gr2
  clear hK K
  try simp only [Act.put, List.setIfInBounds_toArray, List.set_cons_zero, List.set_cons_succ]
  refine wpAnyH_ready (rs := [5]) (by kernel_rfl) (by simp) (AllReadyH.cons rfl (fun K hK => ?_) AllReadyH.nil)
  refine step_append_str rfl _ _ 28 9 rfl base 5 i0_ Try.underlying28 Try.underlying9 hi0 hz0 hz1 hz2 _ _ (by rfl) O3.out xk (by simp [Act.eval]) L3a L3b (HSX.out _ _ G3.out) ?_
  intro v3 w3 o3 g3 r3
  have O4 := hide o3
  have G4 := hide (G3.out.trans ⟨g3, r3⟩)
  refine hK.out _ _ ((HBX.out _ _ G4.out).cell 0) (fun hS => ?_)
  clear o3 g3 r3
  clear hK K
  try simp only [Act.put, List.setIfInBounds_toArray, List.set_cons_zero, List.set_cons_succ]
  refine held_take (i := 6) (d := 0) (oi := _) (v := ?_) rfl rfl (by kernel_rfl) (by kernel_rfl) (by kernel_rfl) (fun _ _ _ h => h) (Or.inl ⟨by rfl, ?_⟩) hS ?_
  rotate_left
  · intro W hW; first | (go_simp; done) | (go_simp; with_reducible rfl)
  try simp only [Act.put, List.setIfInBounds_toArray, List.set_cons_zero, List.set_cons_succ]
  refine wpAnyH_done (by kernel_rfl) ?_ _
  clear L3a L3b O1 O2 O3 G1 G2 G3 B1 hS0
  have HLA : Hid ((acc ++ beN 4 fn ++ xk).length ≤ 1000000000) := hide (by rw [List.length_append, List.length_append, beN_len]; have := HBL.out; have := HHL.out; omega)
  have HN8 := hide (appendNumberG (n := S) (many := 8) (z := 8) O4.out (HSX.out _ _ G4.out) rfl (by omega) (by have := HSS.out; omega) HLA.out)
  have y1 : w3.cell? ⟨W.heap.size, 1, none⟩ = some (.int .i64 xf) := (HBX.out _ _ G4.out).cell 1
  clear hfn hac HFR
  go_upto_if 27 with (fail)
  go_cut [0] (fun r0 wx => Hid (Own wx base 5 1 e8 r0 (acc ++ headB xk xf S)) ∧ Hid (Grw w0 wx v r0))
  case first =>
    by_cases hf : xf = 1
    · have HV : Hid (acc ++ headB xk xf S = acc ++ beN 4 fn ++ xk ++ beN 8 S) := hide (by rw [HHB.out, if_pos hf]; simp only [List.append_assoc])
      subst hf
      go_wp2_with fail
      with_reducible refine HN8.out.mono ?_
      rintro e w5 ⟨v5, rfl, o5, g5⟩
      have O5 := hide o5
      have G5 := hide (G4.out.trans g5)
      clear o5 g5
      go_wp2_with fail
      go_meet
      exact ⟨hide (by rw [HV.out]; exact O5.out), G5⟩
    · have HV : Hid (acc ++ headB xk xf S = acc ++ beN 4 fn ++ xk) := hide (by rw [HHB.out, if_neg hf]; simp only [List.append_assoc, List.append_nil])
      have d0 : (xf == 1) = false := by rw [beq_eq_false_iff_ne]; exact hf
      go_wp2_with fail
      go_meet
      exact ⟨hide (by rw [HV.out]; exact O4.out), G4⟩
  case rest =>
  obtain ⟨O6, G6⟩ := hcut
  clear O4 G4 HN8 y1 HLA HHL HHB
  have EX6 := HEX.out _ _ G6.out
  have HDA := hide (HHD.out.2.2.1.ext EX6)
  have HDL := hide (HHD.out.2.2.1.len)
  have HL : Hid ((acc ++ headB xk xf S).length + y.dn ≤ maxLen) := hide (by rw [List.length_append, ← HDL.out]; have := HBL.out; unfold maxLen; omega)
  have HL2 : Hid (((acc ++ headB xk xf S).length + y.dn) * 1 ≤ 140737488355328) := hide (by rw [List.length_append, ← HDL.out]; have := HBL.out; omega)
  have HB2 := hide (HSX.out _ _ G6.out)
  have y2 : wc.cell? ⟨W.heap.size, 2, none⟩ = some (.slice y.dA y.dn y.dc) := (HBX.out _ _ G6.out).cell 2
  clear EX6
  go_upto_region 12 with (at_builtin; refine wpList_append_at _ rfl (.tmp 31) (.tmp 33) 28 rfl base 5 i0_ _ 1 Try.underlying28 hi0 hz0 hz1 hz2 rfl (by omega) len_e8 one_e8 u0 _ (by rfl) O6.out y.dA y.dn y.dc x.data (by rfl) HDA.out HL.out HL2.out HB2.out ?_; intro v7 w7 o7 g7 _ r7; have O7 := hide o7; have G7 := hide (G6.out.trans (Grw.of g7 r7)); clear o7 g7 r7)
  clear O6 G6 HDA HL HL2 HB2 y2
  obtain ⟨ys, ha, hy, hh1, hk1⟩ := HKD.out.parts
  have HA := hide ha
  have HH1 := hide hh1
  have HKK := hide hk1
  have HY := hide hy
  have HKL := hide HKD.out.len
  have hkb := ha.bound
  have HSZ2 : Hid (∀ (k : Nat) (h : k < x.kids.length), SizeOf.sizeOf x.kids[k] < s) := hide (fun k h => by have := kids_lt x; have := elem_lt (List.getElem_mem h); have := HS1.out; omega)
  have HSB : Hid (∀ (k : Nat) (h : k < x.kids.length), sizeT x.kids[k] < 4611686018427387904) := hide (fun k h => by have h1 := sizeL_take h; have h2 := sizeL_le x.kids (k + 1); have h3 := sizeT_eq x; have := HK1.out; have := HSS.out; omega)
  have HTK : Hid (∀ (k : Nat) (h : k < x.kids.length), bytL (x.kids.take (k + 1)) = bytL (x.kids.take k) ++ bytT x.kids[k]) := hide (fun k h => bytL_take h)
  have HTL : Hid (∀ (k : Nat), (acc ++ headB xk xf S ++ x.data ++ bytL (x.kids.take k)).length ≤ 1000000000) := hide (fun k => by have := bytL_le x.kids k; have := HBL.out; rw [List.length_append, List.length_append, List.length_append]; omega)
  have HEND : Hid (acc ++ headB xk xf S ++ x.data ++ bytL (x.kids.take y.kn) = acc ++ bytT x) := hide (by rw [HBE.out, ← HKD.out.len, List.take_length]; simp only [List.append_assoc])
  have y3 : w7.cell? ⟨W.heap.size, 3, none⟩ = some (.slice y.kA y.kn y.kc) := (HBX.out _ _ G7.out).cell 3
  have HRET : Hid (∀ r wr, Own wr base 5 1 e8 r (acc ++ bytT x) → Grw w0 wr v r → GrGives W base v (acc ++ bytT x) (.returned r) wr) := hide (fun r wr h1 h2 => ⟨r, rfl, h1, HGW.out _ _ h2⟩)
  generalize hP : acc ++ headB xk xf S ++ x.data = pre at *
  clear ha hh1 hk1 hy HBE HBL HK1 HK2 HK3 HOW HHD HKD HS1 HSS F0 Z0 HGW hFN HDL
  generalize acc ++ bytT x = fin at *
  generalize y.kn = kn at *
  generalize y.kA = kA at *
  generalize y.kc = kc at *
  generalize x.kids = l at *
  go_wp2_with fail
  go_loopw [0, 38] (fun r0 ri wr => ∃ k : Nat, k ≤ kn ∧ ri = .int .i64 k ∧ Hid (Own wr base 5 1 e8 r0 (pre ++ bytL (l.take k))) ∧ Hid (Grw w0 wr v r0)) (fun _ ri _ => kn - (intOf ri).toNat)
  case atStart => exact ⟨0, by omega, rfl, hide (by rw [List.take_zero, bytL, List.append_nil]; exact O7.out), G7⟩
  case round =>
    obtain ⟨k, hk, rfl, HO, HG⟩ := hrel
    by_cases hlt : k < kn
    · have hkl : k < l.length := by have := HKL.out; omega
      have hky : k < ys.length := by have := HY.out; omega
      have EX := HEX.out _ _ HG.out
      have hat := HA.out.ext EX
      have hq := HH1.out k _ _ (List.getElem?_eq_getElem hky) (List.getElem?_eq_getElem hkl)
      have hr := HKK.out k _ _ (List.getElem?_eq_getElem hky) (List.getElem?_eq_getElem hkl)
      have hsz := HSZ2.out k hkl
      have hsb := HSB.out k hkl
      have HSU := hide (HTK.out k hkl)
      have hle := HTL.out (k + 1)
      rw [HSU.out, ← List.append_assoc, List.length_append] at hle
      have hbs := HSX.out _ _ HG.out
      obtain ⟨b, o, rfl, _⟩ := hat.addr (by omega)
      have gy : ys.getD k default = ys[k] := by simp [List.getD, hky]
      generalize ys[k] = z at *
      generalize l[k] = u at *
      have a0 : wr.cell? ⟨b, o + k * 4, none⟩ = some (.string ⟨z.kind.toArray⟩) := hat.cellK hlt default 0 _ (by rw [gy]; rfl)
      have a1 : wr.cell? ⟨b, o + k * 4 + 1, none⟩ = some (.int .i64 z.form) := hat.cellK hlt default 1 _ (by rw [gy]; rfl)
      have a2 : wr.cell? ⟨b, o + k * 4 + 2, none⟩ = some (.slice z.dA z.dn z.dc) := hat.cellK hlt default 2 _ (by rw [gy]; rfl)
      have a3 : wr.cell? ⟨b, o + k * 4 + 3, none⟩ = some (.slice z.kA z.kn z.kc) := hat.cellK hlt default 3 _ (by rw [gy]; rfl)
      rw [hq.1] at a0
      rw [hq.2.1] at a1
      have HC := hide (IH.out _ hsz (Nat.le_refl _) hq hr (Ext.trans EX (Ext.alloc wr (.cells #[.string ⟨u.kind.toArray⟩, .int .i64 u.form, .slice z.dA z.dn z.dc, .slice z.kA z.kn z.kc] 66))) hb1 (by rw [World.size_alloc]; omega) (HO.out.ext (Ext.alloc _ _)) hsb hle)
      generalize bytT u = bu at *
      generalize bytL (l.take k) = bk at *
      have i1 : (k : Int) < (kn : Int) := by omega
      have i0 : (0 : Int) ≤ (k : Int) := by omega
      have i8 : IntKind.i64.wrap ((k : Int) + 1) = (k : Int) + 1 := by rw [IntKind.wrap_i64]; omega
      clear hat hq hr hsz hsb gy EX hky hkl hle hbs
      go_wp2_with fail
      with_reducible refine HC.out.mono ?_
      rintro e w5 ⟨v5, rfl, o5, g5⟩
      have O5 := hide o5
      have G5 := hide (HG.out.trans (Grw.ahead (Ext.alloc _ _) g5))
      clear o5 g5
      go_wp2_with fail
      exact ⟨⟨k + 1, by omega, by go_num, hide (by rw [HSU.out, ← List.append_assoc]; exact O5.out), G5⟩, by simp [intOf]; omega⟩
    · obtain rfl : k = kn := by omega
      rw [HEND.out] at HO
      clear hlt
      go_wp2_with fail
      go_ret
      exact HRET.out _ _ HO.out HG.out
theorem app_any (s : Nat) : AppStmt s := by
  induction s using Nat.strongRecOn with
  | _ s ih => exact app_step s ih
end Go.Proofs.Ytkbmgakehlmcnaa
