/- Several texts in one: Walks: runBytes, listBytes (reference). Conditions as stated; Walk: edits (reference). Conditions as stated; Walk: dataFault (program). Conditions as stated; How far chunks are laid, in plain words; cells of the memory in which they are laid. No condition. -/
import Derived.Test.YtkbmgakehlmcnaaMtq21
import Derived.Test.YtkbmgakehlmcnaaMtq29
import Derived.Test.YtkbmgakehlmcnaaMtq22
namespace Go.Proofs.Ytkbmgakehlmcnaa
open Go.RowKit
theorem lsB_two (l : List Int) (x y : Int) : lsB (l ++ [x, y]) = lsB l ++ beN 8 (u64N x) ++ beN 8 (u64N y) := by unfold lsB; rw [List.flatMap_append]; simp
def edB (l : List (Int × Int)) : List UInt8 := lsB (rnN l)
theorem edB_len (l : List (Int × Int)) : (edB l).length = 16 * l.length := by
  have h := liB_len 0 (rnN l)
  unfold liB at h
  rw [List.length_append, beN_len, rnN_len] at h
  unfold edB
  omega
structure FilR (l : List TrkT) : Prop where
  few : l.length ≤ 8
  smp : ∀ i, i < l.length → szOk (l.getD i default).smp ∧ (l.getD i default).smp.length ≤ 5000
  ed : ∀ i, i < l.length → (l.getD i default).ed.length ≤ 50
theorem FilOk.r {sc : Int} {l : List TrkT} (h : FilOk sc l) : FilR l :=
  ⟨h.few, fun i hi => ⟨szOk_of (trF_ok (h.tracks i hi)).2.2.1, (smpF_zero (trF_ok (h.tracks i hi)).2.2.1).1⟩, fun i hi => (trF_ok (h.tracks i hi)).2.2.2.1⟩
def datF (T : List TrkT) (D : List (List UInt8)) : Int := if D.length = T.length ∧ ∀ i, i < T.length → szN (T.getD i default).smp = (D.getD i []).length then 0 else 3
theorem datF_len {T : List TrkT} {D : List (List UInt8)} (h : D.length ≠ T.length) : datF T D = 3 := by unfold datF; rw [if_neg (fun hh => h hh.1)]
theorem datF_at {T : List TrkT} {D : List (List UInt8)} {i : Nat} (hi : i < T.length) (h : szN (T.getD i default).smp ≠ (D.getD i []).length) : datF T D = 3 := by unfold datF; rw [if_neg (fun hh => h (hh.2 i hi))]
theorem datF_all {T : List TrkT} {D : List (List UInt8)} (h : D.length = T.length) (h2 : ∀ i, i < T.length → szN (T.getD i default).smp = (D.getD i []).length) : datF T D = 0 := by unfold datF; rw [if_pos ⟨h, h2⟩]
theorem datF_zero {T : List TrkT} {D : List (List UInt8)} (h : datF T D = 0) : D.length = T.length ∧ ∀ i, i < T.length → szN (T.getD i default).smp = (D.getD i []).length := by
  unfold datF at h
  split at h
  · assumption
  · omega
theorem szN_bd {l : List Smp} (h : szOk l) (h5 : l.length ≤ 5000) (k : Nat) : szN (l.take k) ≤ 500000000 := by
  have h1 := szN_few h (a := 0) (b := min k l.length) (by omega) (by omega)
  have h2 : l.take (min k l.length) = l.take k := by
    rcases Nat.le_total k l.length with hk | hk
    · rw [Nat.min_eq_left hk]
    · rw [Nat.min_eq_right hk, List.take_length, List.take_of_length_le hk]
  rw [h2] at h1
  have h3 : szN (l.take 0) = 0 := rfl
  rw [h3] at h1
  have h4 : 100000 * (min k l.length - 0) ≤ 100000 * 5000 := Nat.mul_le_mul_left _ (by omega)
  exact Nat.le_trans h1 (by rw [Nat.zero_add]; exact h4)
set_option linter.unusedVariables false in
set_option maxRecDepth 100000 in
set_option maxHeartbeats 8000000 in
theorem dataFault_any {sc : Int} {A : Option Addr} {n c : Nat} {hs : List TrkH} {T : List TrkT} {B : Option Addr} {m d : Nat} {es : List (Option Addr × Nat × Nat)} {D : List (List UInt8)} {w : World} (h : TksAt w A n c hs T) (hd : DtsAt w B m d es D) (hr : FilR T) :
    Calls Try.prog 21 #[.agg #[.int .i64 sc, .slice A n c], .slice B m d] w fun e w' => e = .returned (.int .i64 (datF T D)) ∧ Ext w w' := by
  have HF1 := hide (fun (hne : m ≠ n) => datF_len (T := T) (D := D) (by rw [hd.len, h.len]; exact hne))
  have HF2 := hide (fun (i : Nat) (hi : i < n) (hne : szN (T.getD i default).smp ≠ (D.getD i []).length) => datF_at (T := T) (D := D) (by rw [h.len]; exact hi) hne)
  have HF3 := hide (fun (hmn : m = n) (h2 : ∀ i, i < n → szN (T.getD i default).smp = (D.getD i []).length) => datF_all (T := T) (D := D) (by rw [hd.len, h.len]; exact hmn) (fun i hi => h2 i (by rw [← h.len]; exact hi)))
  have HT := hide h
  have HD := hide hd
  have HR := hide (fun (i : Nat) (hi : i < n) => hr.smp i (by rw [h.len]; exact hi))
  have hn8 : n ≤ 8 := by have := hr.few; rw [h.len] at this; exact this
  have hdl := hd.len
  have X0 := hide (Blk.new w 24 #[.int .i64 sc, .slice A n c])
  have E0 := hide (Ext.alloc w (.cells #[.int .i64 sc, .slice A n c] 24))
  have hmb := hd.at_.bound
  clear h hd hr
  go_enter Try.func21, Try.ntmps21
  go_upto_region 1 with (fail)
  refine gen_wpC fun w0 h0 => ?_
  rw [← h0] at X0 E0
  clear h0
  have x1 : w0.cell? ⟨w.heap.size, 1, none⟩ = some (.slice A n c) := X0.out.cell 1
  by_cases hmn : m = n
  case neg =>
    have HE := hide (HF1.out hmn)
    have g1 : ((m : Int) != (n : Int)) = true := by rw [bne_iff_ne]; omega
    clear hmn
    go_wp2_with fail
    go_ret
    exact ⟨ret_int HE.out.symm, E0.out⟩
  case pos =>
  subst hmn
  have g1 : ((m : Int) != (m : Int)) = false := by rw [bne_eq_false_iff_eq]
  go_wp2_with fail
  clear x1 g1 HF1
  go_loopw [19] (fun ri wr => ∃ k : Nat, k ≤ m ∧ ri = .int .i64 k ∧ Hid (∀ i, i < k → szN (T.getD i default).smp = (D.getD i []).length) ∧ Hid (Ext w wr)) (fun ri _ => m - (intOf ri).toNat)
  case atStart => exact ⟨0, by omega, rfl, hide (fun j hj => absurd hj (Nat.not_lt_zero _)), E0⟩
  case round =>
    obtain ⟨k, hk, rfl, HA, HX⟩ := hrel
    by_cases hlt : k < m
    · obtain ⟨b, o, rfl, _⟩ := HT.out.at_.addr (by omega)
      have hat := HT.out.at_.ext HX.out
      have hok := HT.out.ok k hlt
      have HSZ := hide (HR.out k hlt)
      have HG2 := hide (HF2.out k hlt)
      have HNX : Hid (szN (T.getD k default).smp = (D.getD k []).length → ∀ i, i < k + 1 → szN (T.getD i default).smp = (D.getD i []).length) := hide (fun hb i hi => by
        rcases Nat.lt_succ_iff_lt_or_eq.1 hi with h | h
        · exact HA.out i h
        · rw [h]; exact hb)
      obtain ⟨z, hz⟩ : ∃ z, hs.getD k default = z := ⟨_, rfl⟩
      rw [hz] at hok
      have a0 : wr.cell? ⟨b, o + k * 4, none⟩ = some (.string ⟨z.name.toArray⟩) := hat.cellK hlt default 0 _ (by rw [hz]; rfl)
      have a1 : wr.cell? ⟨b, o + k * 4 + 1, none⟩ = some (.int .i64 z.scale) := hat.cellK hlt default 1 _ (by rw [hz]; rfl)
      have a2 : wr.cell? ⟨b, o + k * 4 + 2, none⟩ = some (.slice z.sA z.sn z.sc) := hat.cellK hlt default 2 _ (by rw [hz]; rfl)
      have a3 : wr.cell? ⟨b, o + k * 4 + 3, none⟩ = some (.slice z.eA z.en z.ec) := hat.cellK hlt default 3 _ (by rw [hz]; rfl)
      have HS := hide hok.2.2.1
      have hsl := HS.out.len
      have HSL := hide hsl
      have hdat := HD.out.ok k hlt
      have hdl2 : (D.getD k []).length = (es.getD k (none, 0, 0)).2.1 := hdat.len
      have HDL := hide hdl2
      have hsb : z.sn ≤ 5000 := by have := HSZ.out.2; omega
      generalize (T.getD k default).smp = sm at *
      generalize D.getD k [] = dd at *
      generalize z.name = zn at *
      generalize z.scale = zs at *
      generalize z.sA = sA at *
      generalize z.sn = sn at *
      generalize z.sc = scc at *
      generalize z.eA = eA at *
      generalize z.en = en at *
      generalize z.ec = ec at *
      have i1 : (k : Int) < (m : Int) := by omega
      have i0 : (0 : Int) ≤ (k : Int) := by omega
      clear hat hok hz hsl hdat hdl2
      go_upto_region 6 with (fail)
      refine gen_wpC fun w5 h5 => ?_
      obtain ⟨tb, htb⟩ : ∃ tb, tb = wr.heap.size := ⟨_, rfl⟩
      rw [← htb]
      have E5 : Hid (Ext w w5) := hide (by rw [h5]; exact Ext.trans HX.out (Ext.alloc _ _))
      have X5 : Hid (Blk w5 tb 47 #[.string ⟨zn.toArray⟩, .int .i64 zs, .slice sA sn scc, .slice eA en ec]) := hide (by rw [h5, htb]; exact Blk.new _ _ _)
      clear h5 htb a0 a1 a2 a3
      have y2 : w5.cell? ⟨tb, 2, none⟩ = some (.slice sA sn scc) := X5.out.cell 2
      go_wp2_with fail
      clear y2
      go_loopw [7, 27] (fun rs rj wx => ∃ q : Nat, q ≤ sn ∧ rj = .int .i64 q ∧ rs = .int .i64 (szN (sm.take q) : Int) ∧ Hid (Ext w5 wx)) (fun _ rj _ => sn - (intOf rj).toNat)
      case atStart => exact ⟨0, by omega, rfl, by simp [szN], hide (Ext.refl _)⟩
      case round =>
        obtain ⟨q, hq, rfl, rfl, HY⟩ := hrel
        have EY := hide (Ext.trans E5.out HY.out)
        by_cases hql : q < sn
        · obtain ⟨sb, so, rfl, _⟩ := HS.out.addr (by omega)
          have hat := HS.out.ext EY.out
          have b0 := hat.cellK hql dS 0 _ rfl
          have b1 := hat.cellK hql dS 1 _ rfl
          have b2 := hat.cellK hql dS 2 _ rfl
          have b3 := hat.cellK hql dS 3 _ rfl
          have b4 := hat.cellK hql dS 4 _ rfl
          rw [Nat.add_zero] at b0
          have hsz := HSZ.out.1 q (by have := HSL.out; omega)
          have hbd := szN_bd HSZ.out.1 HSZ.out.2 q
          have HTK : Hid ((szN (sm.take (q + 1)) : Int) = (szN (sm.take q) : Int) + (sm.getD q dS).size) := hide (by rw [szN_take (by have := HSL.out; omega)]; omega)
          generalize (sm.getD q dS).time = s0 at *
          generalize (sm.getD q dS).step = s1 at *
          generalize (sm.getD q dS).shift = s2 at *
          generalize (sm.getD q dS).size = s3 at *
          generalize (sm.getD q dS).key = s4 at *
          generalize szN (sm.take q) = S at *
          have j1 : (q : Int) < (sn : Int) := by omega
          have j0 : (0 : Int) ≤ (q : Int) := by omega
          have j9 : IntKind.i64.wrap ((S : Int) + s3) = (S : Int) + s3 := by rw [IntKind.wrap_i64]; omega
          clear hat
          go_wp2_with fail
          exact ⟨⟨q + 1, by omega, by go_num, int_val HTK.out.symm, hide (Ext.trans HY.out (Ext.alloc _ _))⟩, by simp [intOf]; omega⟩
        · obtain rfl : q = sn := by omega
          have HTK : Hid (sm.take q = sm) := hide (by rw [← HSL.out, List.take_length])
          rw [HTK.out]
          obtain ⟨b2, o2, rfl, _⟩ := HD.out.at_.addr (by omega)
          have c0 : wr.cell? ⟨b2, o2 + k, none⟩ = some (.slice (es.getD k (none, 0, 0)).1 (es.getD k (none, 0, 0)).2.1 (es.getD k (none, 0, 0)).2.2) := by have := (HD.out.at_.ext EY.out).cellK hlt (none, 0, 0) 0 _ rfl; simpa using this
          have hdl := HDL.out
          generalize (es.getD k (none, 0, 0)).1 = dA at *
          generalize (es.getD k (none, 0, 0)).2.1 = dn at *
          generalize (es.getD k (none, 0, 0)).2.2 = dc at *
          by_cases he : szN sm = dd.length
          · have HA2 := hide (HNX.out he)
            have g2 : ((szN sm : Int) != (dn : Int)) = false := by rw [bne_eq_false_iff_eq]; omega
            clear hql he
            go_wp2_with fail
            exact ⟨⟨k + 1, by omega, by go_num, HA2, EY⟩, by simp [intOf]; omega⟩
          · have HE := hide (HG2.out he)
            have g2 : ((szN sm : Int) != (dn : Int)) = true := by rw [bne_iff_ne]; omega
            clear hql he
            go_wp2_with fail
            go_ret
            exact ⟨ret_int HE.out.symm, EY.out⟩
    · obtain rfl : k = m := by omega
      have HE := hide (HF3.out (by trivial) HA.out)
      clear hlt
      go_wp2_with fail
      go_ret
      exact ⟨ret_int HE.out.symm, HX.out⟩
def rngV (f : Nat → Int) (m : Nat) : List Int := (List.range m).map f
theorem rngV_at {f : Nat → Int} {m k : Nat} (hk : k < m) : (rngV f m).getD k 0 = f k := by
  unfold rngV
  rw [List.getD_eq_getElem?_getD, List.getElem?_map, List.getElem?_range hk]
  rfl
theorem rngV_congr {f g : Nat → Int} {m : Nat} (h : ∀ k, k < m → f k = g k) : rngV f m = rngV g m := by
  unfold rngV
  exact List.map_congr_left fun k hk => h k (List.mem_range.1 hk)
theorem rngV_set {f g : Nat → Int} {m i : Nat} {x : Int} (_hi : i < m) (hx : g i = x) (h : ∀ k, k < m → k ≠ i → g k = f k) : (rngV f m).set i x = rngV g m := by
  unfold rngV
  apply List.ext_getElem
  · simp
  · intro k h1 h2
    rw [List.length_map, List.length_range] at h2
    rw [List.getElem_set]
    rw [List.getElem_map, List.getElem_map, List.getElem_range]
    by_cases hk : i = k
    · rw [if_pos hk, ← hk, hx]
    · rw [if_neg hk, h k h2 (Ne.symm hk)]
theorem rngV_zero {f : Nat → Int} {m : Nat} (h : ∀ k, k < m → f k = 0) : rngV f m = List.replicate m 0 := by
  unfold rngV
  apply List.ext_getElem
  · simp
  · intro k h1 h2
    rw [List.length_map, List.length_range] at h1
    rw [List.getElem_map, List.getElem_range, List.getElem_replicate, h k h1]
def doneV (T : List TrkT) (ch n i k : Nat) : Nat := min (T.getD k default).smp.length ((if k < i then n + 1 else n) * ch)
def smpV (T : List TrkT) (ch n i m : Nat) : List Int := rngV (fun k => (doneV T ch n i k : Int)) m
def tknV (T : List TrkT) (ch n i m : Nat) : List Int := rngV (fun k => (szN ((T.getD k default).smp.take (doneV T ch n i k)) : Int)) m
section
variable {T : List TrkT} {ch n i m : Nat}
theorem doneV_other {k : Nat} (h : k ≠ i) : doneV T ch n (i + 1) k = doneV T ch n i k := by
  unfold doneV
  by_cases h1 : k < i
  · rw [if_pos h1, if_pos (by omega)]
  · rw [if_neg h1, if_neg (by omega)]
theorem doneV_now : doneV T ch n i i = min (T.getD i default).smp.length (n * ch) := by unfold doneV; rw [if_neg (Nat.lt_irrefl _)]
theorem doneV_next : doneV T ch n (i + 1) i = min (T.getD i default).smp.length (n * ch + ch) := by unfold doneV; rw [if_pos (Nat.lt_succ_self _), Nat.succ_mul]
theorem doneV_skip (h : (T.getD i default).smp.length ≤ n * ch) (k : Nat) : doneV T ch n (i + 1) k = doneV T ch n i k := by
  by_cases hk : k = i
  · subst hk
    rw [doneV_now, doneV_next, Nat.min_eq_left h, Nat.min_eq_left (by omega)]
  · exact doneV_other hk
theorem doneV_round {k : Nat} (hk : k < m) : doneV T ch n m k = doneV T ch (n + 1) 0 k := by unfold doneV; rw [if_pos hk, if_neg (Nat.not_lt_zero _)]
theorem smpV_skip (h : (T.getD i default).smp.length ≤ n * ch) : smpV T ch n (i + 1) m = smpV T ch n i m := rngV_congr fun k _ => by rw [doneV_skip h]
theorem tknV_skip (h : (T.getD i default).smp.length ≤ n * ch) : tknV T ch n (i + 1) m = tknV T ch n i m := rngV_congr fun k _ => by rw [doneV_skip h]
theorem smpV_round : smpV T ch n m m = smpV T ch (n + 1) 0 m := rngV_congr fun k hk => by rw [doneV_round hk]
theorem tknV_round : tknV T ch n m m = tknV T ch (n + 1) 0 m := rngV_congr fun k hk => by rw [doneV_round hk]
theorem smpV_start : smpV T ch 0 0 m = List.replicate m 0 := rngV_zero fun k _ => by unfold doneV; simp
theorem tknV_start : tknV T ch 0 0 m = List.replicate m 0 := rngV_zero fun k _ => by unfold doneV; simp [szN]
theorem smpV_set (hi : i < m) : (smpV T ch n i m).set i ((min (T.getD i default).smp.length (n * ch + ch) : Nat) : Int) = smpV T ch n (i + 1) m :=
  rngV_set hi (by show ((doneV T ch n (i + 1) i : Nat) : Int) = _; rw [doneV_next]) (fun k _ hk => by show ((doneV T ch n (i + 1) k : Nat) : Int) = _; rw [doneV_other hk])
theorem tknV_set (hi : i < m) : (tknV T ch n i m).set i ((szN ((T.getD i default).smp.take (min (T.getD i default).smp.length (n * ch + ch))) : Nat) : Int) = tknV T ch n (i + 1) m :=
  rngV_set hi (by show ((szN ((T.getD i default).smp.take (doneV T ch n (i + 1) i)) : Nat) : Int) = _; rw [doneV_next]) (fun k _ hk => by show ((szN ((T.getD k default).smp.take (doneV T ch n (i + 1) k)) : Nat) : Int) = _; rw [doneV_other hk])
theorem smpV_at (hi : i < m) : (smpV T ch n i m).getD i 0 = ((min (T.getD i default).smp.length (n * ch) : Nat) : Int) := by unfold smpV; rw [rngV_at hi, doneV_now]
theorem tknV_at (hi : i < m) : (tknV T ch n i m).getD i 0 = (szN ((T.getD i default).smp.take (min (T.getD i default).smp.length (n * ch))) : Int) := by unfold tknV; rw [rngV_at hi, doneV_now]
def moB (T : List TrkT) (ch n : Nat) : Nat → Bool
  | 0 => false
  | i + 1 => moB T ch n i || decide (n * ch < (T.getD i default).smp.length)
theorem moB_false : ∀ {i : Nat}, moB T ch n i = false → ∀ k, k < i → (T.getD k default).smp.length ≤ n * ch
  | 0, _, k, hk => absurd hk (Nat.not_lt_zero _)
  | i + 1, h, k, hk => by
    rw [moB, Bool.or_eq_false_iff, decide_eq_false_iff_not] at h
    rcases Nat.lt_succ_iff_lt_or_eq.1 hk with h1 | h1
    · exact moB_false h.1 k h1
    · subst h1; omega
theorem moB_true : ∀ {i : Nat}, moB T ch n i = true → ∃ k, k < i ∧ n * ch < (T.getD k default).smp.length
  | 0, h => by cases h
  | i + 1, h => by
    rw [moB, Bool.or_eq_true, decide_eq_true_eq] at h
    rcases h with h | h
    · obtain ⟨k, h1, h2⟩ := moB_true h
      exact ⟨k, by omega, h2⟩
    · exact ⟨i, by omega, h⟩
theorem moB_few (h5 : ∀ k, k < i → (T.getD k default).smp.length ≤ 5000) (hc : 1 ≤ ch) (h : moB T ch n i = true) : n < 5000 := by
  obtain ⟨k, h1, h2⟩ := moB_true h
  have h3 := h5 k h1
  have h4 : n * 1 ≤ n * ch := Nat.mul_le_mul_left _ hc
  omega
def sumF (f : Nat → Nat) : Nat → Nat
  | 0 => 0
  | m + 1 => sumF f m + f m
theorem sumF_le {f g : Nat → Nat} : ∀ {m : Nat}, (∀ k, k < m → f k ≤ g k) → sumF f m ≤ sumF g m
  | 0, _ => Nat.le_refl _
  | m + 1, h => Nat.add_le_add (sumF_le fun k hk => h k (by omega)) (h m (by omega))
theorem sumF_lt {f g : Nat → Nat} {j : Nat} (hj : f j < g j) : ∀ {m : Nat}, (∀ k, k < m → f k ≤ g k) → j < m → sumF f m < sumF g m
  | 0, _, h0 => absurd h0 (Nat.not_lt_zero _)
  | m + 1, h, h0 => by
    rcases Nat.lt_succ_iff_lt_or_eq.1 h0 with h1 | h1
    · exact Nat.add_lt_add_of_lt_of_le (sumF_lt hj (fun k hk => h k (by omega)) h1) (h m (by omega))
    · subst h1
      exact Nat.add_lt_add_of_le_of_lt (sumF_le fun k hk => h k (by omega)) hj
def rdC (W : World) (g k : Nat) : Nat := match W.cell? ⟨g, k, none⟩ with
  | some v => (intOf v).toNat
  | none => 0
def leftM (T : List TrkT) (g m : Nat) (b : Value) (W : World) : Nat := match b with
  | .bool true => sumF (fun k => (T.getD k default).smp.length) m + 1 - sumF (rdC W g) m
  | _ => 0
theorem leftM_lt (hch : 1 ≤ ch) {g : Nat} {W W' : World} (hW : ∀ k, k < m → rdC W g k = doneV T ch n 0 k) (hW' : ∀ k, k < m → rdC W' g k = doneV T ch (n + 1) 0 k) : leftM T g m (.bool (moB T ch n m)) W' < leftM T g m (.bool true) W := by
  have e1 : ∀ {f f' : Nat → Nat} {q : Nat}, (∀ k, k < q → f k = f' k) → sumF f q = sumF f' q := fun {f f' q} h => Nat.le_antisymm (sumF_le fun k hk => Nat.le_of_eq (h k hk)) (sumF_le fun k hk => Nat.le_of_eq (h k hk).symm)
  have h1 : sumF (doneV T ch n 0) m ≤ sumF (fun k => (T.getD k default).smp.length) m := sumF_le fun k _ => Nat.min_le_left _ _
  have h3 : sumF (doneV T ch (n + 1) 0) m ≤ sumF (fun k => (T.getD k default).smp.length) m := sumF_le fun k _ => Nat.min_le_left _ _
  cases hm : moB T ch n m with
  | false =>
    unfold leftM
    simp only
    rw [e1 hW]
    omega
  | true =>
    obtain ⟨k, hk, hk2⟩ := moB_true hm
    unfold leftM
    simp only
    rw [e1 hW, e1 hW']
    have h2 : sumF (doneV T ch n 0) m < sumF (doneV T ch (n + 1) 0) m := by
      refine sumF_lt (j := k) ?_ (fun q _ => ?_) hk
      · unfold doneV
        rw [if_neg (Nat.not_lt_zero _), if_neg (Nat.not_lt_zero _), Nat.succ_mul]
        omega
      · unfold doneV
        rw [if_neg (Nat.not_lt_zero _), if_neg (Nat.not_lt_zero _), Nat.succ_mul]
        omega
    omega
end
section
variable {w0 W : World} {gp m : Nat} {hs : List (Option Addr × Nat × Nat)} {pl : List (List Int)} {S : List (Nat × List Int)} {v : Value} {out : List UInt8}
theorem LaM.num (h : LaM w0 W gp m hs pl S v out) {j k : Nat} (hj : j < S.length) (hk : k < m) : W.cell? ⟨(S.getD j dI).1, k, none⟩ = some (.int .i64 ((S.getD j dI).2.getD k 0)) := by
  have := ((h.ints j hj).atS len_e64).num hk
  rwa [Nat.zero_add] at this
theorem LaM.row (h : LaM w0 W gp m hs pl S v out) {k : Nat} (hk : k < m) : W.cell? ⟨gp, k, none⟩ = some (rwV (hs.getD k dR)) := by
  have := (h.pls.atS len_eB1).cellK hk dR 0 _ rfl
  simpa using this
theorem LaM.frS (h : LaM w0 W gp m hs pl S v out) {j : Nat} (hj : j < S.length) (k : Nat) : W.frozen? ⟨(S.getD j dI).1, k, none⟩ = false := (h.ints j hj).frozen1 k
theorem app_getD {l : List (Nat × List Int)} {x : Nat × List Int} {j : Nat} (hj : j < (l ++ [x]).length) : (j < l.length ∧ (l ++ [x]).getD j dI = l.getD j dI) ∨ (j = l.length ∧ (l ++ [x]).getD j dI = x) := by
  rw [List.length_append, List.length_singleton] at hj
  by_cases h : j < l.length
  · left
    refine ⟨h, ?_⟩
    rw [List.getD_eq_getElem?_getD, List.getD_eq_getElem?_getD, List.getElem?_append_left h]
  · right
    obtain rfl : j = l.length := by omega
    refine ⟨rfl, ?_⟩
    rw [List.getD_eq_getElem?_getD, List.getElem?_append_right (Nat.le_refl _), Nat.sub_self]
    rfl
theorem LaM.addS (h : LaM w0 W gp m hs pl S v out) (hm : m ≤ maxLen) : LaM w0 (W.alloc (.cells (madeCells #[.int .i64 0] (m * 1)) 3)) gp m hs pl (S ++ [(W.heap.size, List.replicate m 0)]) v out := by
  have hE := h.extW (Ext.alloc W (.cells (madeCells #[.int .i64 0] (m * 1)) 3))
  have hO : Own (W.alloc (.cells (madeCells #[.int .i64 0] (m * 1)) 3)) w0.heap.size 3 1 e64 (.slice (some ⟨W.heap.size, 0, none⟩) m m) (List.replicate m 0) := made_own (z := #[.int .i64 0]) (x := (0 : Int)) rfl rfl Nat.one_pos W w0.heap.size m h.ext.size hm
  have hgp := (h.pls.lt gp rfl).2
  have hlt := fun {j : Nat} (hj : j < S.length) => (h.slt hj).2
  refine ⟨hE.ext, hE.pls, hE.plen, hE.rows, fun j hj => ?_, hE.out_, fun j hj => ?_, fun j k hj hk hne => ?_, fun i hi g hg => ?_, fun g hg => ?_⟩
  · rcases app_getD hj with ⟨h1, h2⟩ | ⟨_, h2⟩
    · rw [h2]; exact hE.ints j h1
    · rw [h2]; exact hO
  · rcases app_getD hj with ⟨h1, h2⟩ | ⟨_, h2⟩
    · rw [h2]; exact h.a1 j h1
    · rw [h2]; show W.heap.size ≠ gp; omega
  · rcases app_getD hj with ⟨h1, h2⟩ | ⟨h1, h2⟩
    · rcases app_getD hk with ⟨h3, h4⟩ | ⟨_, h4⟩
      · rw [h2, h4]; exact h.a2 j k h1 h3 hne
      · rw [h2, h4]; have := hlt h1; show (S.getD j dI).1 ≠ W.heap.size; omega
    · rcases app_getD hk with ⟨h3, h4⟩ | ⟨h3, h4⟩
      · rw [h2, h4]; have := hlt h3; show W.heap.size ≠ (S.getD k dI).1; omega
      · omega
  · obtain ⟨b1, b2, b3, b4⟩ := h.a3 i hi g hg
    refine ⟨b1, fun j hj => ?_, b3, b4⟩
    rcases app_getD hj with ⟨h1, h2⟩ | ⟨_, h2⟩
    · rw [h2]; exact b2 j h1
    · rw [h2]; have := ((h.rows i hi).lt g hg).2; show W.heap.size ≠ g; omega
  · obtain ⟨b1, b2⟩ := h.a4 g hg
    refine ⟨b1, fun j hj => ?_⟩
    rcases app_getD hj with ⟨h1, h2⟩ | ⟨_, h2⟩
    · rw [h2]; exact b2 j h1
    · rw [h2]; have := (h.out_.lt g hg).2; show W.heap.size ≠ g; omega
theorem LaM.rd {T : List TrkT} {ch n i gs : Nat} {S : List (Nat × List Int)} (h : LaM w0 W gp m hs pl ((gs, smpV T ch n i m) :: S) v out) {k : Nat} (hk : k < m) : rdC W gs k = doneV T ch n i k := by
  have h1 := h.num (j := 0) (by simp) hk
  rw [show ((gs, smpV T ch n i m) :: S).getD 0 dI = (gs, smpV T ch n i m) from rfl] at h1
  unfold rdC
  rw [h1]
  show ((smpV T ch n i m).getD k 0).toNat = _
  unfold smpV
  rw [rngV_at hk]
  rfl
theorem LaM.plA (h : LaM w0 W gp m hs pl S v out) {i : Nat} (hi : i < m) {Wa W6 : World} (he : Ext W Wa) (hg : Wa.grownBy W6 (rwV (hs.getD i dR)).ownBlock) : Own W6 w0.heap.size 79 1 eB1 (.slice (some ⟨gp, 0, none⟩) m m) hs :=
  (h.pls.ext he).tw (Tw.of_grown (o := Wa.heap.size) hg) (fun e => by have := (h.pls.lt _ e).2; have := he.size; omega) (fun g hg2 e => by have e2 : some gp = some g := hg2; injection e2 with e2; exact (h.a3 i hi g e).1 e2.symm)
theorem LaM.frA (h : LaM w0 W gp m hs pl S v out) {i : Nat} (hi : i < m) {Wa W6 : World} (he : Ext W Wa) (hg : Wa.grownBy W6 (rwV (hs.getD i dR)).ownBlock) (k : Nat) : W6.frozen? ⟨gp, k, none⟩ = false := (h.plA hi he hg).frozen1 k
theorem LaM.clA (h : LaM w0 W gp m hs pl S v out) {i : Nat} (hi : i < m) {Wa W6 : World} (he : Ext W Wa) (hg : Wa.grownBy W6 (rwV (hs.getD i dR)).ownBlock) {k : Nat} (hk : k < m) : W6.cell? ⟨gp, k, none⟩ = some (rwV (hs.getD k dR)) := by
  have := ((h.plA hi he hg).atS len_eB1).cellK hk dR 0 _ rfl
  simpa using this
end
theorem rep_getD {α : Type} {m k : Nat} {x : α} : (List.replicate m x).getD k x = x := by
  rw [List.getD_eq_getElem?_getD, List.getElem?_replicate]
  split <;> rfl
theorem LaM.start {w0 : World} {m : Nat} (hm : m ≤ maxLen) : LaM w0 (w0.alloc (.cells (madeCells #[.slice none 0 0] (m * 1)) 79)) w0.heap.size m (List.replicate m dR) (List.replicate m []) [] (.slice none 0 0) [] := by
  have hO : Own (w0.alloc (.cells (madeCells #[.slice none 0 0] (m * 1)) 79)) w0.heap.size 79 1 eB1 (.slice (some ⟨w0.heap.size, 0, none⟩) m m) (List.replicate m dR) := made_own (z := #[.slice none 0 0]) (x := dR) rfl rfl Nat.one_pos w0 w0.heap.size m (Nat.le_refl _) hm
  refine ⟨Ext.alloc _ _, hO, List.length_replicate, fun i _ => ?_, fun j hj => absurd hj (Nat.not_lt_zero _), Own.nil _ _ _ _ _, fun j hj => absurd hj (Nat.not_lt_zero _), fun j _ hj => absurd hj (Nat.not_lt_zero _), fun i _ g hg => ?_, fun g hg => by cases hg⟩
  · rw [rep_getD, rep_getD]; exact Own.nil _ _ _ _ _
  · rw [rep_getD] at hg; cases hg
set_option linter.unusedVariables false in
theorem LaM.drop_ {w0 W : World} {gp m : Nat} {hs : List (Option Addr × Nat × Nat)} {pl : List (List Int)} {S : List (Nat × List Int)} {v : Value} {out : List UInt8} (h : LaM w0 W gp m hs pl S v out) : LaM w0 W gp m hs pl [] v out :=
  ⟨h.ext, h.pls, h.plen, h.rows, fun j hj => absurd hj (Nat.not_lt_zero _), h.out_, fun j hj => absurd hj (Nat.not_lt_zero _), fun j _ hj => absurd hj (Nat.not_lt_zero _), fun i hi g hg => ⟨(h.a3 i hi g hg).1, fun j hj => absurd hj (Nat.not_lt_zero _), (h.a3 i hi g hg).2.2.1, (h.a3 i hi g hg).2.2.2⟩, fun g hg => ⟨(h.a4 g hg).1, fun j hj => absurd hj (Nat.not_lt_zero _)⟩⟩
def LayG (w : World) (m : Nat) (s : LayS) (e : Ending) (w' : World) : Prop := ∃ w0 gp hs v, e = .returned (.tuple #[.slice (some ⟨gp, 0, none⟩) m m, v]) ∧ Ext w w0 ∧ LaM w0 w' gp m hs s.pl [] v s.out
theorem Try.info79 : (Try.prog.info? 79).map (fun i => (i.zero, i.size, i.bytes)) = some (some (.slice none 0 0), 1, 24) := by kernel_rfl
end Go.Proofs.Ytkbmgakehlmcnaa
