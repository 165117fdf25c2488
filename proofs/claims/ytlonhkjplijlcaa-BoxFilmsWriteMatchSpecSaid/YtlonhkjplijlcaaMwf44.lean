/- Walks: bytesOf and Pack (reference). Conditions as stated. -/
import Derived.Test.YtlonhkjplijlcaaMwf43
import Derived.Test.YtlonhkjplijlcaaMwf12
namespace Go.Proofs.Ytlonhkjplijlcaa
open Go.RowKit
theorem wpList_append_str {P : Program} {w : World} {ops : Array Oper} {rest : List Oper} {o : Oper} {a : Act} {Q : Exit → Act → World → Prop} (hgd : o.guard = none) (sl x : Operand) (t u : TypeId)
    (ho : o.op = .call { callee := .builtin .append, args := #[sl, x], argTypes := #[t, u] })
    (base : Nat) (e : TypeId) (i : TypeInfo) (ht : P.underlying t = some (.slice e)) (hu : P.underlying u = some .string) (hi : P.info? e = some i) (hz : i.zero = some (.int .u8 0))
    (hsize : i.size = 1) (hby : i.bytes = 1)
    (v : Value) (xs : List UInt8) (hs : a.eval sl = v) (hown : Own w base e 1 e8 v xs) (k : List UInt8) (hx : a.eval x = .string ⟨k.toArray⟩)
    (h63 : xs.length + k.length ≤ maxLen) (hbytes : xs.length + k.length ≤ 140737488355328) (hbase : base ≤ w.heap.size)
    (h : ∀ v' w', Own w' base e 1 e8 v' (xs ++ k) → w.grownBy w' v.ownBlock → (v'.ownBlock = v.ownBlock ∨ ∃ g, v'.ownBlock = some g ∧ w.heap.size ≤ g) → wpList P ops Q rest (a.put o.dst v') w') : wpList P ops Q (o :: rest) a w :=
  wpList_plain hgd fun K hK => by
    have h1 := step_append_str (P := P) (w := w) (ops := ops) (o := o) (a := a) (K := K) (Q := Q) (E := True) hgd sl x t u ho base e i ht hu hi hz hsize hby v xs hs hown k hx h63 hbytes hbase (fun v' w' a1 a2 a3 => hK _ _ (h v' w' a1 a2 a3))
    rwa [if_pos (by simp [Region.wanted, hgd])] at h1
theorem wrtP {w : World} {x : Int} (many : Nat) (k : Int) (hk : (many : Int) = k) (hm : many ≤ 8) (q : Nat) (hq : u64n x = q) :
    Calls Try.prog 49 #[.int .i64 x, .int .i64 k] w fun e w' => ∃ g, e = .returned (.slice (some ⟨g, 0, none⟩) many many) ∧ At w' 1 e8 (some ⟨g, 0, none⟩) many many (beN many q) ∧ Ext w w' := by
  rw [← hk, ← hq]
  exact (written_any hm).mono fun e w' ⟨g, h1, h2, h3⟩ => ⟨g, h1, h2.atS len_e8, h3⟩
/-- What is known of each of some boxes that are right. -/
theorem fau_get : ∀ {l : List BoxT} {dep c m : Nat} (_ : fauL l dep c = (0, m)) {k : Nat} (hk : k < l.length), l[k].kind.length = 4 ∧ (l[k].form = 0 ∨ l[k].form = 1 ∨ l[k].form = 2) ∧ ∃ dep' c' m', fauL l[k].kids dep' c' = (0, m')
  | [], _, _, _, _, _, hk => absurd hk (Nat.not_lt_zero _)
  | .mk a f d l :: r, dep, c, m, h, 0, _ => by
    obtain ⟨_, h2, m', h3, _⟩ := fauL_ok h
    exact ⟨kind_len (elB_ok h2).1, (elB_ok h2).2.1, _, _, m', h3⟩
  | .mk a f d l :: r, dep, c, m, h, k + 1, hk => by
    obtain ⟨_, _, m', _, h4⟩ := fauL_ok h
    exact fau_get (l := r) h4 (k := k) (by simpa using hk)
theorem BxsAt.one {w : World} {G : Nat → Prop} {b o n c : Nat} {l : List BoxT} (h : BxsAt w G (some ⟨b, o, none⟩) n c l) {k : Nat} (hk : k < l.length) : BxsAt w G (some ⟨b, o + k * 4, none⟩) 1 (c - k) [l[k]] := by
  have hl := h.len
  cases h with
  | mk hs l h hg hl2 h1 h2 =>
    have hn := h.len
    have hc := h.le
    have hkh : k < hs.length := by omega
    have ha := (h.cutAt (k := k) (by omega) (by omega)).upto (k := 1) (by omega)
    rw [show (hs.drop k).take 1 = [hs[k]] by rw [List.drop_eq_getElem_cons hkh]; rfl] at ha
    have hG : InG G (some ⟨b, o + k * 4, none⟩) := fun a e => by injection e with e; subst e; exact hg ⟨b, o, none⟩ rfl
    refine .mk [hs[k]] [l[k]] ha hG rfl (fun i y x hy hx => ?_) (fun i y x hy hx => ?_)
    · match i, hy, hx with
      | 0, hy, hx =>
        simp at hy hx; subst hy hx
        exact h1 k _ _ (List.getElem?_eq_getElem hkh) (List.getElem?_eq_getElem hk)
      | i + 1, hy, hx => simp at hy
    · match i, hy, hx with
      | 0, hy, hx =>
        simp at hy hx; subst hy hx
        exact h2 k _ _ (List.getElem?_eq_getElem hkh) (List.getElem?_eq_getElem hk)
      | i + 1, hy, hx => simp at hy
def NewBy (w : World) (l : List UInt8) (e : Ending) (w' : World) : Prop := ∃ v, e = .returned v ∧ Own w' w.heap.size 5 1 e8 v l ∧ Ext w w'
def ByrStmt (s : Nat) : Prop := ∀ {l : List BoxT} {w W : World} {G : Nat → Prop} {A : Option Addr} {n c : Nat}, SizeOf.sizeOf l ≤ s → BxsAt w G A n c l → Ext w W → (∃ dep c0 m, fauL l dep c0 = (0, m)) → sizeL l ≤ 1000000000 →
  Calls Try.prog 26 #[.slice A n c] W (NewBy W (bytL l))
set_option linter.unusedVariables false in
set_option linter.unusedSimpArgs false in
set_option maxRecDepth 100000 in
set_option maxHeartbeats 8000000 in
theorem byr_step (s : Nat) (ih : ∀ s', s' < s → ByrStmt s') : ByrStmt s := by
  intro l w' w G A n c hs hk hW hfa hb
  replace hk := hk.ext hW
  have hkl := hk.len
  obtain ⟨ys, ha, hy, hh1, hk1⟩ := hk.parts
  have HBX1 := hide (fun (b o k : Nat) (hA : A = some ⟨b, o, none⟩) (h : k < l.length) => (by subst hA; exact hk.one h : BxsAt w G (some ⟨b, o + k * 4, none⟩) 1 (c - k) [l[k]]))
  have hlec := ha.le
  have HA := hide ha
  have HH1 := hide hh1
  have HK1 := hide hk1
  have IH := hide ih
  have HY := hide hy
  have HKL := hide hkl
  have HSL := hide (fun (k : Nat) (h : k < l.length) => sizeL_take h)
  have HSE := hide (fun (k : Nat) => sizeL_le l k)
  have HSZ := hide (fun (k : Nat) (h : k < l.length) => (by have := kids_lt l[k]; have := elem_lt (List.getElem_mem h); omega : SizeOf.sizeOf l[k].kids < s))
  have HFG : Hid (∀ (k : Nat) (h : k < l.length), l[k].kind.length = 4 ∧ (l[k].form = 0 ∨ l[k].form = 1 ∨ l[k].form = 2) ∧ ∃ dep' c' m', fauL l[k].kids dep' c' = (0, m')) := hide (fun k h => by obtain ⟨dep, c0, m, hf⟩ := hfa; exact fau_get hf h)
  have HBT : Hid (∀ k, (bytL (l.take k)).length ≤ sizeL l) := hide (fun k => by obtain ⟨dep, c0, m, hf⟩ := hfa; have h1 := bytL_len l _ _ _ hf; have h2 := bytL_le l k; omega)
  have HBS : Hid (∀ (k : Nat) (h : k < l.length), (bytL (l.take k)).length + sizeT l[k] ≤ 1000000000) := hide (fun k h => by
    obtain ⟨dep, c0, m, hf⟩ := hfa
    have h1 := bytL_len l _ _ _ hf
    have h2 := bytL_le l (k + 1)
    have h3 : (bytL (l.take k)).length = sizeL (l.take k) := by
      have : ∀ (l : List BoxT) (dep c m : Nat), fauL l dep c = (0, m) → ∀ k, (bytL (l.take k)).length = sizeL (l.take k) := by
        intro l
        induction l with
        | nil => intro _ _ _ _ k; simp [bytL, sizeL]
        | cons x r ih =>
          intro dep c m hf k
          cases k with
          | zero => simp [bytL, sizeL]
          | succ k =>
            obtain ⟨kk, f, d, q⟩ := x
            obtain ⟨_, g2, m', g3, g4⟩ := fauL_ok hf
            have j1 := bytL_len q _ _ _ g3
            have j2 := ih _ _ _ g4 k
            rw [List.take_succ_cons, bytL, bytT, sizeL, sizeT, List.length_append, List.length_append, List.length_append, headB_len (kind_len (elB_ok g2).1), j1, j2]
            omega
      exact this l _ _ _ hf k
    have h4 := sizeL_take h
    have h5 := sizeL_le l (k + 1)
    omega)
  have HT : Hid (bytL (l.take n) = bytL l) := hide (by rw [← hkl, List.take_length])
  have HBK := hide (fun (k : Nat) (h : k < l.length) => bytL_take h)
  have hkb := ha.bound
  clear ha hh1 hk1 ih hy hkl hk hs hb hfa hW
  obtain ⟨i0_, hi0, hz0, hz1, hz2⟩ := info_parts Try.info5
  go_enter Try.func26, Try.ntmps26
  go_wp2_with fail
  go_loopw [3, 4] (fun r3 ri wr => ∃ (k : Nat) (q3 : Value), q3 = r3 ∧ k ≤ n ∧ ri = .int .i64 k ∧ Hid (Own wr w.heap.size 5 1 e8 q3 (bytL (l.take k))) ∧ Hid (Ext w wr)) (fun _ ri _ => n - (intOf ri).toNat)
  case atStart => exact ⟨0, _, rfl, by omega, rfl, hide (by rw [List.take_zero, bytL]; exact Own.nil _ _ _ _ _), hide (Ext.refl _)⟩
  case round =>
    obtain ⟨k, q3, rfl, hk, rfl, HO, HX⟩ := hrel
    obtain ⟨wo, hwo⟩ : ∃ wo, wo = wr := ⟨_, rfl⟩
    subst hwo
    by_cases hlt : k < n
    · have hkl : k < l.length := by have := HKL.out; omega
      have hky : k < ys.length := by have := HY.out; omega
      have hat := HA.out.ext HX.out
      have hq := (HH1.out k _ _ (List.getElem?_eq_getElem hky) (List.getElem?_eq_getElem hkl))
      have hr := (HK1.out k _ _ (List.getElem?_eq_getElem hky) (List.getElem?_eq_getElem hkl))
      have hsz := HSZ.out k hkl
      have hfg := HFG.out k hkl
      have hbs := HBS.out k hkl
      have HBK1 := hide (HBK.out k hkl)
      obtain ⟨b, o, rfl, _⟩ := hat.addr (by omega)
      have HON := hide (HBX1.out b o k rfl hkl)
      have gy : ys.getD k default = ys[k] := by simp [List.getD, hky]
      have hdl := hq.2.2.1.len
      generalize ys[k] = z at *
      generalize l[k] = u at *
      have a0 : wo.cell? ⟨b, o + k * 4, none⟩ = some (.string ⟨z.kind.toArray⟩) := hat.cellK hlt default 0 _ (by rw [gy]; rfl)
      have a1 : wo.cell? ⟨b, o + k * 4 + 1, none⟩ = some (.int .i64 z.form) := hat.cellK hlt default 1 _ (by rw [gy]; rfl)
      have a2 : wo.cell? ⟨b, o + k * 4 + 2, none⟩ = some (.slice z.dA z.dn z.dc) := hat.cellK hlt default 2 _ (by rw [gy]; rfl)
      have a3 : wo.cell? ⟨b, o + k * 4 + 3, none⟩ = some (.slice z.kA z.kn z.kc) := hat.cellK hlt default 3 _ (by rw [gy]; rfl)
      rw [hq.1] at a0
      rw [hq.2.1] at a1
      have HDA := hide (fun (W : World) (hW : Ext w W) => hq.2.2.1.ext hW)
      have HKC := hide (fun (W : World) (hW : Ext w W) => IH.out _ hsz (Nat.le_refl _) hr hW hfg.2.2 (by have := sizeT_eq u; omega))
      have HZC := hide (fun (W : World) (hW : Ext w W) => szr_any _ (Nat.le_refl _) (HON.out.ext hW) (by rw [sizeL, sizeL]; omega))
      have hso : sizeL [u] = sizeT u := by rw [sizeL, sizeL, Nat.add_zero]
      rw [hso] at HZC
      have HDL := hide hdl
      have HKL4 := hide hfg.1
      have hfo := hfg.2.1
      have hbe := bytT_eq u
      rw [hbe] at HBK1
      have HSE1 := hide (sizeT_eq u)
      have hub : u64n ((sizeT u : Nat) : Int) = sizeT u := by rw [u64n_pos (by omega) (by omega)]; omega
      have HW4 := hide (fun (W : World) => wrtP (w := W) (x := ((sizeT u : Nat) : Int)) 4 4 rfl (by omega) _ hub)
      have HW8 := hide (fun (W : World) => wrtP (w := W) (x := ((sizeT u : Nat) : Int)) 8 8 rfl (by omega) _ hub)
      have HW1 := hide (fun (W : World) => wrtP (w := W) (x := 1) 4 4 rfl (by omega) 1 (by rw [u64n_pos (by omega) (by omega)]; rfl))
      have HW0 := hide (fun (W : World) => wrtP (w := W) (x := 0) 4 4 rfl (by omega) 0 (by rw [u64n_pos (by omega) (by omega)]; rfl))
      have HLN : Hid ((bytL (l.take k)).length + (8 + (if u.form = 1 then 8 else 0) + u.data.length + sizeL u.kids) ≤ 1000000000) := hide (by have := sizeT_eq u; omega)
      have HAC : Hid ((bytL (l.take k)).length ≤ 1000000000) := hide (by omega)
      have HKB : Hid ((bytL u.kids).length = sizeL u.kids) := hide (by obtain ⟨_, _, _, hf⟩ := hfg.2.2; exact bytL_len _ _ _ _ hf)
      have HHB : Hid (headB u.kind u.form (sizeT u) = beN 4 (firstN u.form (sizeT u)) ++ u.kind ++ (if u.form = 1 then beN 8 (sizeT u) else [])) := hide rfl
      clear hat hq hr hsz gy hky hkl hdl hfg hbs hbe hub HON hso
      generalize bytL (l.take k) = acc at *
      generalize sizeT u = S at *
      generalize u.kind = uk at *
      generalize u.form = uf at *
      generalize z.dA = dA at *
      generalize z.dn = dn at *
      generalize z.dc = dc at *
      generalize z.kA = kA at *
      generalize z.kn = kn at *
      generalize z.kc = kc at *
      have i1 : (k : Int) < (n : Int) := by omega
      have i0 : (0 : Int) ≤ (k : Int) := by omega
      have i8 : IntKind.i64.wrap ((k : Int) + 1) = (k : Int) + 1 := by rw [IntKind.wrap_i64]; omega
      go_upto_region 6 with (fail)
      refine gen_wpC fun w4 h4 => ?_
      obtain ⟨xb, hxb⟩ : ∃ xb, xb = wo.heap.size := ⟨_, rfl⟩
      rw [← hxb]
      have F4 : Hid (Ext w w4) := hide (by rw [h4]; exact Ext.trans HX.out (Ext.alloc _ _))
      have X4 : Hid (Blk w4 xb 47 #[.string ⟨uk.toArray⟩, .int .i64 uf, .slice dA dn dc, .slice kA kn kc]) := hide (by rw [h4, hxb]; exact Blk.new _ _ _)
      have O4 := hide (by rw [h4]; exact HO.out.ext (Ext.alloc _ _) : Own w4 w.heap.size 5 1 e8 q3 acc)
      have HFR : Hid (∀ b, q3.ownBlock = some b → w.heap.size ≤ b ∧ b < xb) := hide (fun b hb => by have := HO.out.lt b hb; rw [hxb]; exact this)
      clear h4 hxb a0 a1 a2 a3 HX HO
      have HEX : Hid (∀ X r, Grw w4 X q3 r → Ext w X) := hide (fun X r g => Ext.gr F4.out g.grown (fun b hb => (HFR.out b hb).1))
      have HBX : Hid (∀ X r, Grw w4 X q3 r → Blk X xb 47 #[.string ⟨uk.toArray⟩, .int .i64 uf, .slice dA dn dc, .slice kA kn kc]) := hide (fun X r g => (g.grown.block _ X4.out.lt (fun e => by have := (HFR.out _ e.symm).2; omega)).trans X4.out)
      have HSX : Hid (∀ X r, Grw w4 X q3 r → w.heap.size ≤ X.heap.size) := hide (fun X r g => (HEX.out X r g).size)
      clear F4 X4 HFR
      have G4 := hide (Grw.refl w4 q3)
      have HSN := hide (HBX.out _ _ G4.out)
      have x1 : w4.cell? ⟨xb, 1, none⟩ = some (.int .i64 uf) := HSN.out.cell 1
      go_wp2_with fail
      with_reducible refine (HZC.out _ (HEX.out _ _ G4.out)).mono ?_
      rintro e w5 ⟨rfl, m5, hm5⟩
      have G5 := hide (G4.out.ext (by rw [hm5]; exact Ext.drewN _ _ : Ext w4 w5))
      have O5 := hide (O4.out.ext (by rw [hm5]; exact Ext.drewN _ _ : Ext w4 w5))
      clear hm5 x1 HSN G4 O4 HZC
      have x1 : w5.cell? ⟨xb, 1, none⟩ = some (.int .i64 uf) := (HBX.out _ _ G5.out).cell 1
      go_upto_block 2 with (fail)
      go_cut [3] (fun r3 wx => ∃ q : Value, q = r3 ∧ Hid (Own wx w.heap.size 5 1 e8 q (acc ++ headB uk uf S)) ∧ Hid (Grw w4 wx q3 q))
      case first =>
        clear x1
        rcases hfo with rfl | rfl | rfl
        · have HV : Hid (acc ++ headB uk 0 S = acc ++ beN 4 S ++ uk) := hide (by rw [HHB.out]; simp [firstN])
          go_wp2_with fail
          with_reducible refine (HW4.out _).mono ?_
          rintro e wm ⟨gm, rfl, om, em⟩
          have AM := hide om
          have OB := hide (O5.out.ext em)
          have GB := hide (G5.out.ext em)
          have S1 : Hid ((acc).length + 4 ≤ maxLen) := hide (by have h1 := HAC.out; have h2 := HKL4.out; (try simp only [List.length_append, beN_len]); unfold maxLen; omega)
          have S2 : Hid (((acc).length + 4) * 1 ≤ 140737488355328) := hide (by have h1 := HAC.out; have h2 := HKL4.out; (try simp only [List.length_append, beN_len]); omega)
          have S3 : Hid (w.heap.size ≤ wm.heap.size) := hide (HSX.out _ _ GB.out)
          clear om em
          go_upto_region 10 with (at_builtin; refine wpList_append_at _ rfl (.tmp 27) (.tmp 29) 26 rfl w.heap.size 5 i0_ _ 1 Try.underlying26 hi0 hz0 hz1 hz2 rfl (by omega) len_e8 one_e8 _ _ (by rfl) OB.out (some ⟨gm, 0, none⟩) 4 4 _ (by rfl) AM.out S1.out S2.out S3.out ?_; intro v7 w7 o7 g7 _ r7; have O6 := hide o7; have G6 := hide (GB.out.trans (Grw.of g7 r7)); clear o7 g7 r7)
          clear OB GB AM S1 S2 S3
          have x0 : w7.cell? ⟨xb, 0, none⟩ = some (.string ⟨uk.toArray⟩) := (HBX.out _ _ G6.out).cell 0
          have S1 : Hid ((acc ++ beN 4 S).length + uk.length ≤ maxLen) := hide (by have h1 := HAC.out; have h2 := HKL4.out; (try simp only [List.length_append, beN_len]); unfold maxLen; omega)
          have S2 : Hid ((acc ++ beN 4 S).length + uk.length ≤ 140737488355328) := hide (by have h1 := HAC.out; have h2 := HKL4.out; (try simp only [List.length_append, beN_len]); omega)
          have S3 : Hid (w.heap.size ≤ w7.heap.size) := hide (HSX.out _ _ G6.out)
          go_wp2_with (at_builtin; refine wpList_append_str rfl (.tmp 31) (.tmp 33) 26 9 rfl w.heap.size 5 i0_ Try.underlying26 Try.underlying9 hi0 hz0 hz1 hz2 _ _ (by rfl) O6.out uk (by rfl) S1.out S2.out S3.out ?_; intro v7 w9 o7 g7 r7; have O7 := hide o7; have G7 := hide (G6.out.trans ⟨g7, r7⟩); clear o7 g7 r7)
          clear x0 S1 S2 S3
          go_meet
          exact ⟨_, rfl, hide (by rw [HV.out]; exact O7.out), G7⟩
        · have HV : Hid (acc ++ headB uk 1 S = acc ++ beN 4 1 ++ uk ++ beN 8 S) := hide (by rw [HHB.out]; simp [firstN])
          go_wp2_with fail
          with_reducible refine (HW1.out _).mono ?_
          rintro e wm ⟨gm, rfl, om, em⟩
          have AM := hide om
          have OB := hide (O5.out.ext em)
          have GB := hide (G5.out.ext em)
          have S1 : Hid ((acc).length + 4 ≤ maxLen) := hide (by have h1 := HAC.out; have h2 := HKL4.out; (try simp only [List.length_append, beN_len]); unfold maxLen; omega)
          have S2 : Hid (((acc).length + 4) * 1 ≤ 140737488355328) := hide (by have h1 := HAC.out; have h2 := HKL4.out; (try simp only [List.length_append, beN_len]); omega)
          have S3 : Hid (w.heap.size ≤ wm.heap.size) := hide (HSX.out _ _ GB.out)
          clear om em
          go_upto_region 13 with (at_builtin; refine wpList_append_at _ rfl (.tmp 37) (.tmp 38) 26 rfl w.heap.size 5 i0_ _ 1 Try.underlying26 hi0 hz0 hz1 hz2 rfl (by omega) len_e8 one_e8 _ _ (by rfl) OB.out (some ⟨gm, 0, none⟩) 4 4 _ (by rfl) AM.out S1.out S2.out S3.out ?_; intro v7 w7 o7 g7 _ r7; have O6 := hide o7; have G6 := hide (GB.out.trans (Grw.of g7 r7)); clear o7 g7 r7)
          clear OB GB AM S1 S2 S3
          have x0 : w7.cell? ⟨xb, 0, none⟩ = some (.string ⟨uk.toArray⟩) := (HBX.out _ _ G6.out).cell 0
          have S1 : Hid ((acc ++ beN 4 1).length + uk.length ≤ maxLen) := hide (by have h1 := HAC.out; have h2 := HKL4.out; (try simp only [List.length_append, beN_len]); unfold maxLen; omega)
          have S2 : Hid ((acc ++ beN 4 1).length + uk.length ≤ 140737488355328) := hide (by have h1 := HAC.out; have h2 := HKL4.out; (try simp only [List.length_append, beN_len]); omega)
          have S3 : Hid (w.heap.size ≤ w7.heap.size) := hide (HSX.out _ _ G6.out)
          go_upto_region 14 with (at_builtin; refine wpList_append_str rfl (.tmp 40) (.tmp 42) 26 9 rfl w.heap.size 5 i0_ Try.underlying26 Try.underlying9 hi0 hz0 hz1 hz2 _ _ (by rfl) O6.out uk (by rfl) S1.out S2.out S3.out ?_; intro v7 w9 o7 g7 r7; have O7 := hide o7; have G7 := hide (G6.out.trans ⟨g7, r7⟩); clear o7 g7 r7)
          clear x0 S1 S2 S3
          go_wp2_with fail
          with_reducible refine (HW8.out _).mono ?_
          rintro e wm ⟨gm, rfl, om, em⟩
          have AM := hide om
          have OB := hide (O7.out.ext em)
          have GB := hide (G7.out.ext em)
          have S1 : Hid ((acc ++ beN 4 1 ++ uk).length + 8 ≤ maxLen) := hide (by have h1 := HAC.out; have h2 := HKL4.out; (try simp only [List.length_append, beN_len]); unfold maxLen; omega)
          have S2 : Hid (((acc ++ beN 4 1 ++ uk).length + 8) * 1 ≤ 140737488355328) := hide (by have h1 := HAC.out; have h2 := HKL4.out; (try simp only [List.length_append, beN_len]); omega)
          have S3 : Hid (w.heap.size ≤ wm.heap.size) := hide (HSX.out _ _ GB.out)
          clear om em
          go_wp2_with (at_builtin; refine wpList_append_at _ rfl (.tmp 44) (.tmp 46) 26 rfl w.heap.size 5 i0_ _ 1 Try.underlying26 hi0 hz0 hz1 hz2 rfl (by omega) len_e8 one_e8 _ _ (by rfl) OB.out (some ⟨gm, 0, none⟩) 8 8 _ (by rfl) AM.out S1.out S2.out S3.out ?_; intro v7 w7 o7 g7 _ r7; have O8 := hide o7; have G8 := hide (GB.out.trans (Grw.of g7 r7)); clear o7 g7 r7)
          clear OB GB AM S1 S2 S3
          go_meet
          exact ⟨_, rfl, hide (by rw [HV.out]; exact O8.out), G8⟩
        · have HV : Hid (acc ++ headB uk 2 S = acc ++ beN 4 0 ++ uk) := hide (by rw [HHB.out]; simp [firstN])
          go_wp2_with fail
          with_reducible refine (HW0.out _).mono ?_
          rintro e wm ⟨gm, rfl, om, em⟩
          have AM := hide om
          have OB := hide (O5.out.ext em)
          have GB := hide (G5.out.ext em)
          have S1 : Hid ((acc).length + 4 ≤ maxLen) := hide (by have h1 := HAC.out; have h2 := HKL4.out; (try simp only [List.length_append, beN_len]); unfold maxLen; omega)
          have S2 : Hid (((acc).length + 4) * 1 ≤ 140737488355328) := hide (by have h1 := HAC.out; have h2 := HKL4.out; (try simp only [List.length_append, beN_len]); omega)
          have S3 : Hid (w.heap.size ≤ wm.heap.size) := hide (HSX.out _ _ GB.out)
          clear om em
          go_upto_region 17 with (at_builtin; refine wpList_append_at _ rfl (.tmp 50) (.tmp 51) 26 rfl w.heap.size 5 i0_ _ 1 Try.underlying26 hi0 hz0 hz1 hz2 rfl (by omega) len_e8 one_e8 _ _ (by rfl) OB.out (some ⟨gm, 0, none⟩) 4 4 _ (by rfl) AM.out S1.out S2.out S3.out ?_; intro v7 w7 o7 g7 _ r7; have O6 := hide o7; have G6 := hide (GB.out.trans (Grw.of g7 r7)); clear o7 g7 r7)
          clear OB GB AM S1 S2 S3
          have x0 : w7.cell? ⟨xb, 0, none⟩ = some (.string ⟨uk.toArray⟩) := (HBX.out _ _ G6.out).cell 0
          have S1 : Hid ((acc ++ beN 4 0).length + uk.length ≤ maxLen) := hide (by have h1 := HAC.out; have h2 := HKL4.out; (try simp only [List.length_append, beN_len]); unfold maxLen; omega)
          have S2 : Hid ((acc ++ beN 4 0).length + uk.length ≤ 140737488355328) := hide (by have h1 := HAC.out; have h2 := HKL4.out; (try simp only [List.length_append, beN_len]); omega)
          have S3 : Hid (w.heap.size ≤ w7.heap.size) := hide (HSX.out _ _ G6.out)
          go_wp2_with (at_builtin; refine wpList_append_str rfl (.tmp 53) (.tmp 55) 26 9 rfl w.heap.size 5 i0_ Try.underlying26 Try.underlying9 hi0 hz0 hz1 hz2 _ _ (by rfl) O6.out uk (by rfl) S1.out S2.out S3.out ?_; intro v7 w9 o7 g7 r7; have O7 := hide o7; have G7 := hide (G6.out.trans ⟨g7, r7⟩); clear o7 g7 r7)
          clear x0 S1 S2 S3
          go_meet
          exact ⟨_, rfl, hide (by rw [HV.out]; exact O7.out), G7⟩
      case rest =>
      obtain ⟨q6, rfl, O6, G6⟩ := hcut
      clear x1 O5 G5 HW4 HW8 HW1 HW0
      have HHL : Hid ((headB uk uf S).length = 8 + (if uf = 1 then 8 else 0)) := hide (headB_len HKL4.out)
      have HDA6 := hide (HDA.out _ (HEX.out _ _ G6.out))
      have y2 : wc.cell? ⟨xb, 2, none⟩ = some (.slice dA dn dc) := (HBX.out _ _ G6.out).cell 2
      have S1 : Hid ((acc ++ headB uk uf S).length + dn ≤ maxLen) := hide (by rw [List.length_append, HHL.out, ← HDL.out]; have := HLN.out; unfold maxLen; omega)
      have S2 : Hid (((acc ++ headB uk uf S).length + dn) * 1 ≤ 140737488355328) := hide (by rw [List.length_append, HHL.out, ← HDL.out]; have := HLN.out; omega)
      have S3 : Hid (w.heap.size ≤ wc.heap.size) := hide (HSX.out _ _ G6.out)
      go_upto_region 19 with (at_builtin; refine wpList_append_at _ rfl (.tmp 57) (.tmp 59) 26 rfl w.heap.size 5 i0_ _ 1 Try.underlying26 hi0 hz0 hz1 hz2 rfl (by omega) len_e8 one_e8 _ _ (by rfl) O6.out dA dn dc u.data (by rfl) HDA6.out S1.out S2.out S3.out ?_; intro v7 w7 o7 g7 _ r7; have O7 := hide o7; have G7 := hide (G6.out.trans (Grw.of g7 r7)); clear o7 g7 r7)
      clear S1 S2 S3 HDA6 y2 O6 G6
      have y3 : w7.cell? ⟨xb, 3, none⟩ = some (.slice kA kn kc) := (HBX.out _ _ G7.out).cell 3
      go_wp2_with fail
      with_reducible refine (HKC.out _ (HEX.out _ _ G7.out)).mono ?_
      rintro e w8 ⟨v8, rfl, o8, e8_⟩
      obtain ⟨A8, c8, rfl, a8⟩ := o8.at_ len_e8
      have AM := hide a8
      have O8 := hide (O7.out.ext e8_)
      have G8 := hide (G7.out.ext e8_)
      clear y3 o8 e8_ a8 O7 G7
      have S1 : Hid ((acc ++ headB uk uf S ++ u.data).length + (bytL u.kids).length ≤ maxLen) := hide (by rw [List.length_append, List.length_append, HHL.out, HKB.out]; have := HLN.out; unfold maxLen; omega)
      have S2 : Hid (((acc ++ headB uk uf S ++ u.data).length + (bytL u.kids).length) * 1 ≤ 140737488355328) := hide (by rw [List.length_append, List.length_append, HHL.out, HKB.out]; have := HLN.out; omega)
      have S3 : Hid (w.heap.size ≤ w8.heap.size) := hide (HSX.out _ _ G8.out)
      have HFIN : Hid (acc ++ headB uk uf S ++ u.data ++ bytL u.kids = bytL (l.take (k + 1))) := hide (by rw [HBK1.out]; simp only [List.append_assoc])
      go_wp2_with (at_builtin; refine wpList_append_at _ rfl (.tmp 61) (.tmp 64) 26 rfl w.heap.size 5 i0_ _ 1 Try.underlying26 hi0 hz0 hz1 hz2 rfl (by omega) len_e8 one_e8 _ _ (by rfl) O8.out A8 (bytL u.kids).length c8 (bytL u.kids) (by rfl) AM.out S1.out S2.out S3.out ?_; intro v7 w9 o7 g7 _ r7; have O9 := hide o7; have G9 := hide (G8.out.trans (Grw.of g7 r7)); clear o7 g7 r7)
      exact ⟨⟨k + 1, _, rfl, by omega, by go_num, hide (by rw [← HFIN.out]; exact O9.out), hide (HEX.out _ _ G9.out)⟩, by simp [intOf]; omega⟩
    · obtain rfl : k = n := by omega
      rw [HT.out] at HO
      clear hlt
      go_wp2_with fail
      go_ret
      exact ⟨_, rfl, HO.out, HX.out⟩
theorem byr_any (s : Nat) : ByrStmt s := by
  induction s using Nat.strongRecOn with
  | _ s ih => exact byr_step s ih
end Go.Proofs.Ytlonhkjplijlcaa
