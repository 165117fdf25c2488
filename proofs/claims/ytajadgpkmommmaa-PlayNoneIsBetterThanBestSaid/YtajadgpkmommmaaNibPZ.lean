/- Plain: what With, Run and Best of the program give, in one form; no score is greater than that of the best. Conditions as stated. -/
import Derived.Test.YtajadgpkmommmaaStep
import Derived.Test.YtajadgpkmommmaaMem
import Derived.Test.YtajadgpkmommmaaTw
import Derived.Test.YtajadgpkmommmaaOut
import Derived.Deep.DeepCutAuto
import Derived.Test.YtajadgpkmommmaaFilmP
import Derived.Test.YtajadgpkmommmaaPairs
import Derived.Lib.MinMax
import Derived.Test.YtajadgpkmommmaaWithRZ
import Derived.Test.YtajadgpkmommmaaWithP
import Derived.Lib.SliceRun
import Derived.Test.YtajadgpkmommmaaLawRZ
namespace Go.Proofs.Ytajadgpkmommmaa
open Go.RowKit
/-- The next plan, i positions to go. -/
def nxS (base : Int) : Nat → List Int → List Int × Bool
  | 0, l => (l, false)
  | i + 1, l => if l.getD i 0 + 1 < base then (l.set i (l.getD i 0 + 1), true) else nxS base i (l.set i 0)
theorem nxS_succ (base : Int) (i : Nat) (l : List Int) : nxS base (i + 1) l = if l.getD i 0 + 1 < base then (l.set i (l.getD i 0 + 1), true) else nxS base i (l.set i 0) := rfl
/-- All digits are right. -/
def digs (base : Int) (l : List Int) : Prop := ∀ i, i < l.length → 0 ≤ l.getD i 0 ∧ l.getD i 0 < base
theorem getD_set {l : List Int} {i j : Nat} {x : Int} (hi : i < l.length) : (l.set i x).getD j 0 = if i = j then x else l.getD j 0 := by
  simp only [List.getD_eq_getElem?_getD, List.getElem?_set]
  by_cases h : i = j
  · subst h; simp [hi]
  · simp [h]
theorem digs.set {base : Int} {l : List Int} (h : digs base l) {i : Nat} {x : Int} (hx : 0 ≤ x ∧ x < base) : digs base (l.set i x) := fun j hj => by
  simp at hj
  by_cases hi : i < l.length
  · rw [getD_set hi]
    split
    · exact hx
    · exact h j hj
  · rw [List.set_eq_of_length_le (by omega)]
    exact h j hj
/-- Zeros from a place on. -/
def zrL (l : List Int) (i : Nat) : List Int := l.take i ++ List.replicate (l.length - i) 0
theorem zr_len (l : List Int) (i : Nat) (h : i ≤ l.length) : (zrL l i).length = l.length := by simp [zrL]; omega
theorem zr_get (l : List Int) (i j : Nat) (h : i ≤ l.length) : (zrL l i).getD j 0 = if j < i then l.getD j 0 else 0 := by
  unfold zrL
  rw [List.getD_eq_getElem?_getD, List.getElem?_append]
  by_cases hj : j < i
  · simp only [hj, if_true, List.getD_eq_getElem?_getD, List.length_take]
    rw [if_pos (by omega), List.getElem?_take, if_pos hj]
  · simp only [hj, if_false, List.length_take]
    rw [if_neg (by omega)]
    by_cases h2 : j - min i l.length < l.length - i
    · rw [List.getElem?_replicate, if_pos h2]; rfl
    · rw [List.getElem?_replicate, if_neg h2]; rfl
theorem ext_getD {a b : List Int} (hl : a.length = b.length) (h : ∀ i, i < a.length → a.getD i 0 = b.getD i 0) : a = b := by
  refine List.ext_getElem hl fun i h1 h2 => ?_
  have := h i h1
  simpa [List.getD_eq_getElem?_getD, h1, h2] using this
theorem zr_step (l : List Int) (i : Nat) (h : i < l.length) : (zrL l (i + 1)).set i 0 = zrL l i := by
  refine ext_getD (by rw [List.length_set, zr_len _ _ (by omega), zr_len _ _ (by omega)]) fun j hj => ?_
  rw [List.length_set, zr_len _ _ (by omega)] at hj
  rw [getD_set (by rw [zr_len _ _ (by omega)]; omega), zr_get _ _ _ (by omega), zr_get _ _ _ (by omega)]
  by_cases h1 : i = j
  · subst h1; simp
  · rw [if_neg h1]
    by_cases h2 : j < i
    · rw [if_pos (by omega), if_pos h2]
    · rw [if_neg (by omega), if_neg h2]
/-- A list with zeros between two places. -/
def qzL (l : List Int) (i m : Nat) : List Int := (List.range l.length).map fun j => if i ≤ j ∧ j < m then 0 else l.getD j 0
theorem qz_len (l : List Int) (i m : Nat) : (qzL l i m).length = l.length := by simp [qzL]
theorem qz_get (l : List Int) (i m j : Nat) (h : j < l.length) : (qzL l i m).getD j 0 = if i ≤ j ∧ j < m then 0 else l.getD j 0 := by
  unfold qzL
  simp [List.getD_eq_getElem?_getD, h]
theorem qz_start (l : List Int) (i : Nat) : qzL l i i = l := by
  refine ext_getD (qz_len _ _ _) fun j hj => ?_
  rw [qz_len] at hj
  rw [qz_get _ _ _ _ hj, if_neg (by omega)]
theorem qz_step (l : List Int) (i m : Nat) (h : i ≤ m) (hm : m < l.length) : (qzL l i m).set m 0 = qzL l i (m + 1) := by
  refine ext_getD (by rw [List.length_set, qz_len, qz_len]) fun j hj => ?_
  rw [List.length_set, qz_len] at hj
  rw [getD_set (by rw [qz_len]; omega), qz_get _ _ _ _ hj, qz_get _ _ _ _ hj]
  by_cases h1 : m = j
  · subst h1; rw [if_pos rfl, if_pos (by omega)]
  · rw [if_neg h1]
    by_cases h2 : i ≤ j ∧ j < m
    · rw [if_pos h2, if_pos (by omega)]
    · rw [if_neg h2, if_neg (by omega)]
theorem qz_end (l : List Int) (i : Nat) (x : Int) (h : i < l.length) : qzL (l.set i x) (i + 1) l.length = (zrL l (i + 1)).set i x := by
  refine ext_getD (by rw [qz_len, List.length_set, List.length_set, zr_len _ _ (by omega)]) fun j hj => ?_
  rw [qz_len, List.length_set] at hj
  rw [qz_get _ _ _ _ (by simpa using hj), getD_set h, getD_set (by rw [zr_len _ _ (by omega)]; omega), zr_get _ _ _ (by omega)]
  by_cases h1 : i = j
  · subst h1; rw [if_neg (by omega), if_pos rfl, if_pos rfl]
  · rw [if_neg h1, if_neg h1]
    by_cases h2 : j < i + 1
    · rw [if_neg (by omega), if_pos h2]
    · rw [if_pos (by omega), if_neg h2]
theorem zr_all (l : List Int) : zrL l l.length = l := by simp [zrL]
theorem nxS_len (base : Int) : ∀ (i : Nat) (l : List Int), (nxS base i l).1.length = l.length
  | 0, _ => rfl
  | i + 1, l => by
    rw [nxS_succ]
    split
    · simp
    · rw [nxS_len base i]; simp
theorem nxS_digs {base : Int} (hb : 0 < base) : ∀ (i : Nat) (l : List Int), i ≤ l.length → digs base l → digs base (nxS base i l).1
  | 0, _, _, h => h
  | i + 1, l, hi, h => by
    rw [nxS_succ]
    have hd := h i (by omega)
    split
    · exact h.set ⟨by omega, by omega⟩
    · exact nxS_digs hb i _ (by simp; omega) (h.set ⟨Int.le_refl _, hb⟩)
/-- What a plan counts. -/
def valL (base : Nat) : List Int → Nat
  | [] => 0
  | x :: r => x.toNat * base ^ r.length + valL base r
theorem valL_lt {base : Nat} (hb : 0 < base) : ∀ l : List Int, digs base l → valL base l < base ^ l.length
  | [], _ => by simp [valL]
  | x :: r, h => by
    have h1 := valL_lt hb r (fun i hi => by have := h (i + 1) (by simp; omega); simpa using this)
    have h2 := h 0 (by simp)
    simp only [List.getD_cons_zero] at h2
    have h3 : (x.toNat + 1) * base ^ r.length ≤ base * base ^ r.length := Nat.mul_le_mul_right _ (by omega)
    rw [Nat.add_mul, Nat.one_mul] at h3
    simp only [valL, List.length_cons, Nat.pow_succ]
    rw [Nat.mul_comm (base ^ r.length) base]
    omega
theorem valL_set {base : Nat} : ∀ (l : List Int) (i : Nat) (x : Int), i < l.length → valL base (l.set i x) + (l.getD i 0).toNat * base ^ (l.length - 1 - i) = valL base l + x.toNat * base ^ (l.length - 1 - i)
  | y :: r, 0, x, _ => by
    simp only [List.set_cons_zero, valL, List.getD_cons_zero, List.length_cons]
    have : r.length + 1 - 1 - 0 = r.length := by omega
    rw [this]
    omega
  | y :: r, i + 1, x, h => by
    have ih := valL_set (base := base) r i x (by simpa using h)
    simp only [List.set_cons_succ, valL, List.getD_cons_succ, List.length_cons, List.length_set]
    have : r.length + 1 - 1 - (i + 1) = r.length - 1 - i := by omega
    rw [this]
    omega
/-- The next plan counts one more. -/
theorem nxS_val {base : Nat} (hb : 0 < base) : ∀ (i : Nat) (l : List Int), i ≤ l.length → digs base l → (nxS base i l).2 = true → valL base (nxS base i l).1 = valL base l + base ^ (l.length - i)
  | 0, _, _, _, h => by simp [nxS] at h
  | i + 1, l, hi, hd, h => by
    rw [nxS_succ] at h ⊢
    have hdi := hd i (by omega)
    have hs := valL_set (base := base) l i
    by_cases c : l.getD i 0 + 1 < base
    · rw [if_pos c]
      have h1 := hs (l.getD i 0 + 1) (by omega)
      have e : (l.getD i 0 + 1).toNat = (l.getD i 0).toNat + 1 := by omega
      rw [e, Nat.add_mul, Nat.one_mul] at h1
      have e2 : l.length - 1 - i = l.length - (i + 1) := by omega
      rw [e2] at h1
      simp only
      omega
    · rw [if_neg c] at h ⊢
      have h1 := hs 0 (by omega)
      have ih := nxS_val hb i (l.set i 0) (by simp; omega) (hd.set ⟨Int.le_refl _, by omega⟩) h
      rw [ih, List.length_set]
      have e : (l.getD i 0).toNat = base - 1 := by omega
      have e2 : l.length - i = (l.length - 1 - i) + 1 := by omega
      have e3 : l.length - (i + 1) = l.length - 1 - i := by omega
      rw [e] at h1
      rw [e2, e3, Nat.pow_succ]
      have h4 : (base - 1) * base ^ (l.length - 1 - i) + base ^ (l.length - 1 - i) = base ^ (l.length - 1 - i) * base := by
        rw [Nat.mul_comm _ base, ← Nat.succ_mul]
        congr 1
        omega
      simp at h1
      omega

set_option maxHeartbeats 2000000 in
theorem nextCh_any {w : World} {B g n c : Nat} {l : List Int} {base : Int} (hO : Own w B 3 1 e64 (.slice (some ⟨g, 0, none⟩) n c) l) (hn : n ≤ 200) (hd : digs base l) (hb : 1 ≤ base ∧ base ≤ 20) :
    Calls Try.prog 35 #[.slice (some ⟨g, 0, none⟩) n c, .int .i64 base] w fun e w' => e = .returned (.bool (nxS base n l).2) ∧ ((nxS base n l).2 = true → Own w' B 3 1 e64 (.slice (some ⟨g, 0, none⟩) n c) (nxS base n l).1) ∧ Tw w w' g none := by
  have hl := hO.len len_e64
  have H := hide hO
  have HD := hide hd
  have HL := hide hl
  obtain ⟨hb1, hb2⟩ := hb
  clear hO hd hl
  have w1 : IntKind.i64.wrap ((n : Int) - 1) = (n : Int) - 1 := by rw [IntKind.wrap_i64]; omega
  go_enter Try.func35, Try.ntmps35
  go_wp2_with fail
  go_loopw [5] (fun ri wr => ∃ (k : Nat) (m : List Int), k ≤ n ∧ ri = .int .i64 ((k : Int) - 1) ∧ Hid (nxS base k m = nxS base n l) ∧ Hid (m.length = n) ∧ Hid (digs base m) ∧ Hid (Own wr B 3 1 e64 (.slice (some ⟨g, 0, none⟩) n c) m) ∧ Hid (Tw w wr g none)) (fun ri _ => (intOf ri + 1).toNat)
  case atStart => exact ⟨n, l, Nat.le_refl _, rfl, hide rfl, HL, HD, H, hide (Tw.refl _ _ _)⟩
  case round =>
    obtain ⟨k, m, hk, rfl, HN, HM, HDM, HO, HT⟩ := hrel
    rcases Nat.eq_zero_or_pos k with rfl | hk0
    · have i0 : (((0 : Nat) : Int) - 1) = -1 := rfl
      rw [i0]
      have HV : Hid ((nxS base n l).2 = false) := hide (by rw [← HN.out]; rfl)
      go_wp2_with fail
      go_ret
      exact ⟨by rw [HV.out]; rfl, fun h => absurd (h.symm.trans HV.out) (by simp), HT.out⟩
    obtain ⟨j, rfl⟩ : ∃ j, k = j + 1 := ⟨k - 1, by omega⟩
    rw [show ((j + 1 : Nat) : Int) - 1 = (j : Int) by omega]
    have hjn : j < n := by omega
    have a1 := (HO.out.atS len_e64).num hjn
    rw [Nat.zero_add] at a1
    have fz := HO.out.frozen1 j
    obtain ⟨hx1, hx2⟩ := HDM.out j (by have := HM.out; omega)
    have hst := nxS_succ base j m
    rw [HN.out] at hst
    have HSX := hide (Own.set1 len_e64 HO.out j (m.getD j 0 + 1) (.int .i64 (m.getD j 0 + 1)) rfl)
    have HTX := hide (HT.out.trans (Tw.set_ wr g j (.int .i64 (m.getD j 0 + 1)) none))
    have HDZ := hide (HDM.out.set (i := j) (x := 0) ⟨Int.le_refl _, by omega⟩)
    have HMZ : Hid ((m.set j 0).length = n) := hide (by rw [List.length_set]; exact HM.out)
    have HZZ : Hid ((m.set j (m.getD j 0 + 1)).set j 0 = m.set j 0) := hide (by rw [List.set_set])
    generalize hx : m.getD j 0 = x at *
    have HX := hide hx
    have wx : IntKind.i64.wrap (x + 1) = x + 1 := by rw [IntKind.wrap_i64]; omega
    have wj : IntKind.i64.wrap ((j : Int) - 1) = (j : Int) - 1 := by rw [IntKind.wrap_i64]; omega
    have i1 : (j : Int) < (n : Int) := by omega
    have HST := hide hst
    clear hst hx
    go_upto_region 5 with (fail)
    refine gen_wpC fun W1 h1 => ?_
    have O1 := hide (show Own W1 B 3 1 e64 (.slice (some ⟨g, 0, none⟩) n c) (m.set j (x + 1)) from by rw [h1]; exact HSX.out)
    have T1 := hide (show Tw w W1 g none from by rw [h1]; exact HTX.out)
    clear h1 a1 fz HSX HTX
    have a1 := (O1.out.atS len_e64).num hjn
    rw [Nat.zero_add, getD_set (by have := HM.out; omega), if_pos rfl] at a1
    have fz := O1.out.frozen1 j
    by_cases hlt : x + 1 < base
    · have HV : Hid (nxS base n l = (m.set j (x + 1), true)) := hide (by rw [HST.out, if_pos hlt])
      go_wp2_with fail
      go_ret
      rw [HV.out]
      exact ⟨rfl, fun _ => O1.out, T1.out⟩
    · have HV : Hid (nxS base j (m.set j 0) = nxS base n l) := hide (by rw [HST.out, if_neg hlt])
      have i2 : decide (x + 1 < base) = false := by simp; omega
      have HS2 := hide (Own.set1 len_e64 O1.out j 0 (.int .i64 0) rfl)
      have HT2 := hide (T1.out.trans (Tw.set_ W1 g j (.int .i64 0) none))
      go_wp2_with fail
      exact ⟨⟨j, m.set j 0, by omega, rfl, HV, HMZ, HDZ, hide (by rw [← HZZ.out]; exact HS2.out), HT2⟩, by simp only [intOf]; omega⟩
end Go.Proofs.Ytajadgpkmommmaa
namespace Go.Proofs.Ytajadgpkmommmaa
open Go.RowKit
/-- A number of 64 bits. -/
@[irreducible] def wrI (x : Int) : Int := (x + 9223372036854775808) % 18446744073709551616 - 9223372036854775808
theorem wrI_w (x : Int) : IntKind.i64.wrap x = wrI x := by rw [IntKind.wrap_i64]; unfold wrI; rfl
theorem wrI_64 (x : Int) : wrap64 x = wrI x := by unfold wrI wrap64; rfl
/-- What the choices give. -/
def scA (Q L C : List Int) (wc : Int) : Nat → Int → Int
  | 0, n => n
  | k + 1, n => if k = 0 then wrI (scA Q L C wc k n + wrI (Q.getD (C.getD k 0).toNat 0 * L.getD k 0))
    else wrI (wrI (scA Q L C wc k n + wrI (Q.getD (C.getD k 0).toNat 0 * L.getD k 0)) - wrI (wc * max (wrI (Q.getD (C.getD k 0).toNat 0 - Q.getD (C.getD (k - 1) 0).toNat 0)) (wrI (-(wrI (Q.getD (C.getD k 0).toNat 0 - Q.getD (C.getD (k - 1) 0).toNat 0))))))
theorem scA_zero (Q L C : List Int) (wc n : Int) : scA Q L C wc (0 + 1) n = wrI (scA Q L C wc 0 n + wrI (Q.getD (C.getD 0 0).toNat 0 * L.getD 0 0)) := rfl
theorem scA_succ (Q L C : List Int) (wc n : Int) {k : Nat} (h : k ≠ 0) : scA Q L C wc (k + 1) n = wrI (wrI (scA Q L C wc k n + wrI (Q.getD (C.getD k 0).toNat 0 * L.getD k 0)) - wrI (wc * max (wrI (Q.getD (C.getD k 0).toNat 0 - Q.getD (C.getD (k - 1) 0).toNat 0)) (wrI (-(wrI (Q.getD (C.getD k 0).toNat 0 - Q.getD (C.getD (k - 1) 0).toNat 0)))))) := by
  conv => lhs; unfold scA
  rw [if_neg h]
/-- What the stalls take. -/
def scB (T : List (Int × Int)) (ws : Int) : Nat → Int → Int
  | 0, n => n
  | k + 1, n => wrI (scB T ws k n - wrI (ws * wrI ((T.getD k (0, 0)).2 - (T.getD k (0, 0)).1)))
/-- The score. -/
def scoF (Q L C : List Int) (T : List (Int × Int)) (beg wc ws ww : Int) : Int := scB T ws T.length (scA Q L C wc C.length (wrI (wrI (-ww) * beg)))
section
variable {lA : Option Addr} {ln lc : Nat} {sA : Option Addr} {sn sc : Nat} {qA : Option Addr} {qn qc : Nat} {w : World} {L : List Int} {S : List (List Int)} {Q : List Int} {C : List Int} {T : List (Int × Int)} {cA aA rA tA : Option Addr} {cn cc an ac rn rc tn tc : Nat} {beg en wc ws ww : Int}
set_option linter.unusedVariables false in
set_option maxRecDepth 100000 in
set_option maxHeartbeats 8000000 in
theorem keyScore_any (h : Shw w lA ln lc sA sn sc qA qn qc L S Q) (hC : At w 1 e64 cA cn cc C) (hT : At w 2 e2 tA tn tc T) (hcl : C.length ≤ L.length) (hcr : ∀ i, i < C.length → 0 ≤ C.getD i 0 ∧ C.getD i 0 < Q.length) :
    Calls Try.prog 36 #[.agg #[.slice lA ln lc, .slice sA sn sc, .slice qA qn qc], .agg #[.slice cA cn cc, .slice aA an ac, .slice rA rn rc, .int .i64 beg, .slice tA tn tc, .int .i64 en], .agg #[.int .i64 wc, .int .i64 ws, .int .i64 ww]] w fun e w' => e = .returned (.int .i64 (scoF Q L C T beg wc ws ww)) ∧ Ext w w' := by
  have hv : scoF Q L C T beg wc ws ww = scB T ws tn (scA Q L C wc cn (wrI (wrI (-ww) * beg))) := by unfold scoF; rw [hC.len, hT.len]
  have hLl := h.longs.len
  have hQl := h.qual.len
  have hCl := hC.len
  have hTl := hT.len
  have hbq := h.qual.bound
  have hbl := h.longs.bound
  have hbc := hC.bound
  have hbt := hT.bound
  have HV := hide hv
  have HH := hide h
  have HC := hide hC
  have HT := hide hT
  have HCR := hide hcr
  have HLS := hide (And.intro hLl (And.intro hQl (And.intro hCl hTl)))
  have hcn : cn ≤ ln := by omega
  have HX : Hid (Ext w (((w.alloc (.cells #[.slice lA ln lc, .slice sA sn sc, .slice qA qn qc] 25)).alloc (.cells #[.slice cA cn cc, .slice aA an ac, .slice rA rn rc, .int .i64 beg, .slice tA tn tc, .int .i64 en] 33)).alloc (.cells #[.int .i64 wc, .int .i64 ws, .int .i64 ww] 28))) := hide (ext_alloc (ext_alloc (Ext.alloc _ _) _) _)
  have hb0 := ((Blk.new w 25 #[.slice lA ln lc, .slice sA sn sc, .slice qA qn qc]).alloc (.cells #[.slice cA cn cc, .slice aA an ac, .slice rA rn rc, .int .i64 beg, .slice tA tn tc, .int .i64 en] 33)).alloc (.cells #[.int .i64 wc, .int .i64 ws, .int .i64 ww] 28)
  have hb1 := (Blk.new (w.alloc (.cells #[.slice lA ln lc, .slice sA sn sc, .slice qA qn qc] 25)) 33 #[.slice cA cn cc, .slice aA an ac, .slice rA rn rc, .int .i64 beg, .slice tA tn tc, .int .i64 en]).alloc (.cells #[.int .i64 wc, .int .i64 ws, .int .i64 ww] 28)
  have hb2 := Blk.new ((w.alloc (.cells #[.slice lA ln lc, .slice sA sn sc, .slice qA qn qc] 25)).alloc (.cells #[.slice cA cn cc, .slice aA an ac, .slice rA rn rc, .int .i64 beg, .slice tA tn tc, .int .i64 en] 33)) 28 #[.int .i64 wc, .int .i64 ws, .int .i64 ww]
  simp only [World.size_alloc] at hb1 hb2
  have B0 := hide hb0
  have B1 := hide hb1
  have B2 := hide hb2
  clear hv h hC hT hcl hcr hb0 hb1 hb2 hLl hQl hCl hTl
  go_enter Try.func36, Try.ntmps36
  go_wp2_with fail
  go_loopw [7, 22] (fun rs ri wr => ∃ (k : Nat) (s : Int), k ≤ cn ∧ ri = .int .i64 k ∧ rs = .int .i64 s ∧ Hid (s = scA Q L C wc k (wrI (wrI (-ww) * beg))) ∧ Hid (Ext (((w.alloc (.cells #[.slice lA ln lc, .slice sA sn sc, .slice qA qn qc] 25)).alloc (.cells #[.slice cA cn cc, .slice aA an ac, .slice rA rn rc, .int .i64 beg, .slice tA tn tc, .int .i64 en] 33)).alloc (.cells #[.int .i64 wc, .int .i64 ws, .int .i64 ww] 28)) wr)) (fun _ ri _ => cn - (intOf ri).toNat)
  case atStart => exact ⟨0, _, by omega, rfl, rfl, hide (by simp only [wrI_64]; rfl), hide (Ext.refl _)⟩
  case round =>
    obtain ⟨k, s, hk, rfl, rfl, HS, HX1⟩ := hrel
    have C0 := hide (B0.out.ext HX1.out)
    have C1 := hide (B1.out.ext HX1.out)
    have C2 := hide (B2.out.ext HX1.out)
    by_cases hlt : k < cn
    · obtain ⟨bc, oc, rfl, _⟩ := HC.out.addr (by omega)
      obtain ⟨bl, ol, rfl, _⟩ := HH.out.longs.addr (by omega)
      obtain ⟨hc1, hc2⟩ := HCR.out k (by have := HLS.out; omega)
      obtain ⟨bq, oq, rfl, _⟩ := HH.out.qual.addr (by have := HLS.out; omega)
      have EW := hide (Ext.trans HX.out HX1.out)
      have a1 := (HC.out.ext EW.out).num hlt
      have a2 := (HH.out.longs.ext EW.out).num (show k < ln by omega)
      obtain ⟨r, hr⟩ : ∃ r : Nat, C.getD k 0 = (r : Int) := ⟨(C.getD k 0).toNat, by omega⟩
      rw [hr] at hc1 hc2
      have hrq : r < qn := by have := HLS.out; omega
      have a3 := (HH.out.qual.ext EW.out).num hrq
      rw [hr] at a1
      have i1 : (k : Int) < (cn : Int) := by omega
      have i2 : (r : Int) < (qn : Int) := by omega
      have i3 : (0 : Int) ≤ (r : Int) := by omega
      have i4 : (k : Int) < (ln : Int) := by omega
      have g0 : wr.cell? ⟨w.heap.size, 0, none⟩ = some (.slice (some ⟨bl, ol, none⟩) ln lc) := C0.out.cell 0
      have g2 : wr.cell? ⟨w.heap.size, 2, none⟩ = some (.slice (some ⟨bq, oq, none⟩) qn qc) := C0.out.cell 2
      have g3 : wr.cell? ⟨w.heap.size + 1, 0, none⟩ = some (.slice (some ⟨bc, oc, none⟩) cn cc) := C1.out.cell 0
      have g4 : wr.cell? ⟨w.heap.size + 1 + 1, 0, none⟩ = some (.int .i64 wc) := C2.out.cell 0
      rcases Nat.eq_zero_or_pos k with rfl | hk0
      · have hst := scA_zero Q L C wc (wrI (wrI (-ww) * beg))
        rw [hr, Int.toNat_natCast] at hst
        rw [Nat.add_zero] at a1 a2
        generalize L.getD 0 0 = lv at *
        generalize Q.getD r 0 = qv at *
        have HST := hide hst
        clear hst hr hc1 hc2 EW
        go_wp2_with fail
        go_quiet (fail)
        go_wp2_with fail
        first | (exact ⟨⟨1, _, by omega, by go_num, rfl, hide (by rw [HST.out, ← HS.out]; simp only [wrI_64]), hide (Ext.trans HX1.out (by repeat' (first | (with_reducible exact Below.refl _ _) | (with_reducible assumption) | (with_reducible refine below_drewN ?_ _) | (with_reducible refine Below.drew ?_) | (with_reducible refine ext_alloc ?_ _) | (with_reducible refine Below.setCell ?_ ?_ _) | go_size)))⟩, by simp [intOf]; omega⟩)
      · have hst := scA_succ Q L C wc (wrI (wrI (-ww) * beg)) (show k ≠ 0 by omega)
        obtain ⟨hp1, hp2⟩ := HCR.out (k - 1) (by have := HLS.out; omega)
        obtain ⟨rp, hrp⟩ : ∃ r : Nat, C.getD (k - 1) 0 = (r : Int) := ⟨(C.getD (k - 1) 0).toNat, by omega⟩
        rw [hr, Int.toNat_natCast, hrp, Int.toNat_natCast] at hst
        rw [hrp] at hp1 hp2
        have a4 := (HC.out.ext EW.out).num (show k - 1 < cn by omega)
        rw [hrp] at a4
        have hpq : rp < qn := by have := HLS.out; omega
        have a5 := (HH.out.qual.ext EW.out).num hpq
        have j0 : (0 : Int) < (k : Int) := by omega
        have j1 : IntKind.i64.wrap ((k : Int) - 1) = (k : Int) - 1 := by rw [IntKind.wrap_i64]; omega
        have j2 : ((k : Int) - 1).toNat = k - 1 := by omega
        have j3 : (0 : Int) ≤ (k : Int) - 1 := by omega
        have j4 : (k : Int) - 1 < (cn : Int) := by omega
        have j5 : (rp : Int) < (qn : Int) := by omega
        have j6 : (0 : Int) ≤ (rp : Int) := by omega
        have j7 : (1 : Int) ≤ (k : Int) := by omega
        have j8 : (k : Int) ≤ (cn : Int) := by omega
        generalize L.getD k 0 = lv at *
        generalize Q.getD r 0 = qv at *
        generalize Q.getD rp 0 = pv at *
        have HST := hide hst
        clear hst hr hrp hc1 hc2 EW hp1 hp2
        go_wp2_with fail
        go_quiet (fail)
        go_wp2_with fail
        refine gen_wpC fun W1 h1 => ?_
        have X1 := hide (show Ext wr W1 from by rw [h1]; exact (by repeat' (first | (with_reducible exact Below.refl _ _) | (with_reducible assumption) | (with_reducible refine below_drewN ?_ _) | (with_reducible refine Below.drew ?_) | (with_reducible refine ext_alloc ?_ _) | (with_reducible refine Below.setCell ?_ ?_ _) | go_size)))
        have g0 := X1.out.cell g0
        have g2 := X1.out.cell g2
        have g3 := X1.out.cell g3
        have g4 := X1.out.cell g4
        have a1 := X1.out.cell a1
        have a3 := X1.out.cell a3
        have a4 := X1.out.cell a4
        have a5 := X1.out.cell a5
        clear h1 a2
        go_quiet (fail)
        refine gen_the fun W2 h2 => ?_
        have X2 := hide (show Ext wr W2 from by rw [h2]; exact Ext.trans X1.out (by repeat' (first | (with_reducible exact Below.refl _ _) | (with_reducible assumption) | (with_reducible refine below_drewN ?_ _) | (with_reducible refine Below.drew ?_) | (with_reducible refine ext_alloc ?_ _) | (with_reducible refine Below.setCell ?_ ?_ _) | go_size)))
        have g4 : W2.cell? ⟨w.heap.size + 1 + 1, 0, none⟩ = some (.int .i64 wc) := by rw [h2]; exact g4
        clear h2 g0 g2 g3 a1 a3 a4 a5
        go_wp2_with fail
        exact ⟨⟨k + 1, _, by omega, by go_num, rfl, hide (by rw [HST.out, ← HS.out]; simp only [wrI_64]), hide (Ext.trans HX1.out X2.out)⟩, by simp [intOf]; omega⟩
    have hkn : k = cn := by omega
    subst hkn
    have HV2 : Hid (scoF Q L C T beg wc ws ww = scB T ws tn s) := hide (by rw [HV.out, HS.out])
    have EW := hide (Ext.trans HX.out HX1.out)
    have g1 : wr.cell? ⟨w.heap.size + 1, 4, none⟩ = some (.slice tA tn tc) := C1.out.cell 4
    have i1 : ¬ (k : Int) < (k : Int) := by omega
    clear HV HS hlt B0 B1 B2 C0 HX HX1 HC
    go_wp2_with fail
    generalize hwo : wr = wo at *
    clear hwo g1
    go_loopw [7, 71] (fun rs ri wr => ∃ (j : Nat) (s2 : Int), j ≤ tn ∧ ri = .int .i64 j ∧ rs = .int .i64 s2 ∧ Hid (s2 = scB T ws j s) ∧ Hid (Ext wo wr)) (fun _ ri _ => tn - (intOf ri).toNat)
    case atStart => exact ⟨0, _, by omega, rfl, rfl, hide rfl, hide (Ext.refl _)⟩
    case round =>
      obtain ⟨j, s2, hj, rfl, rfl, HS2, HX2⟩ := hrel
      by_cases hlt : j < tn
      · obtain ⟨bt, ot, rfl, _⟩ := HT.out.addr (by omega)
        obtain ⟨a1, a2⟩ := (HT.out.ext (Ext.trans EW.out HX2.out)).pair hlt
        have hst : scB T ws (j + 1) s = wrI (scB T ws j s - wrI (ws * wrI ((T.getD j (0, 0)).2 - (T.getD j (0, 0)).1))) := rfl
        generalize (T.getD j (0, 0)).1 = t1 at *
        generalize (T.getD j (0, 0)).2 = t2 at *
        have HST := hide hst
        have i1 : (j : Int) < (tn : Int) := by omega
        have g4 : (wr.alloc (.cells #[.int .i64 t1, .int .i64 t2] 64)).cell? ⟨w.heap.size + 1 + 1, 1, none⟩ = some (.int .i64 ws) := (Ext.trans HX2.out (Ext.alloc _ _)).cell (C2.out.cell 1)
        clear hst
        go_wp2_with fail
        exact ⟨⟨j + 1, _, by omega, by go_num, rfl, hide (by rw [HST.out, ← HS2.out]; simp only [wrI_64]), hide (Ext.trans HX2.out (by repeat' (first | (with_reducible exact Below.refl _ _) | (with_reducible assumption) | (with_reducible refine below_drewN ?_ _) | (with_reducible refine Below.drew ?_) | (with_reducible refine ext_alloc ?_ _) | (with_reducible refine Below.setCell ?_ ?_ _) | go_size)))⟩, by simp [intOf]; omega⟩
      have hjn : j = tn := by omega
      subst hjn
      have i1 : ¬ (j : Int) < (j : Int) := by omega
      go_wp2_with fail
      go_ret
      exact ⟨ret_int (by rw [HV2.out, HS2.out]), Ext.trans EW.out HX2.out⟩
end
end Go.Proofs.Ytajadgpkmommmaa
namespace Go.Proofs.Ytajadgpkmommmaa
open Go.RowKit
theorem ext_setsQ {w W : World} {g : Nat} {a b c d e f : Value} (h : Ext w W) (hg : w.heap.size ≤ g) : Ext w ((((((W.setCell ⟨g, 0, none⟩ a).setCell ⟨g, 1, none⟩ b).setCell ⟨g, 2, none⟩ c).setCell ⟨g, 3, none⟩ d).setCell ⟨g, 4, none⟩ e).setCell ⟨g, 5, none⟩ f) := by
  have t : Tw W ((((((W.setCell ⟨g, 0, none⟩ a).setCell ⟨g, 1, none⟩ b).setCell ⟨g, 2, none⟩ c).setCell ⟨g, 3, none⟩ d).setCell ⟨g, 4, none⟩ e).setCell ⟨g, 5, none⟩ f) g none := by
    (repeat' (first | (with_reducible exact Tw.refl _ _ _) | (with_reducible refine Tw.trans ?_ (Tw.set_ _ _ _ _ _))))
  exact Below.trans h (t.below h.size hg (fun b hb => by cases hb))
theorem blk_setsQ {W : World} {g t : Nat} {z0 z1 z2 z3 z4 z5 a b c d e f : Value} (h : Blk W g t #[z0, z1, z2, z3, z4, z5]) : Blk ((((((W.setCell ⟨g, 0, none⟩ a).setCell ⟨g, 1, none⟩ b).setCell ⟨g, 2, none⟩ c).setCell ⟨g, 3, none⟩ d).setCell ⟨g, 4, none⟩ e).setCell ⟨g, 5, none⟩ f) g t #[a, b, c, d, e, f] :=
  (((((h.set_ 0 a).set_ 1 b).set_ 2 c).set_ 3 d).set_ 4 e).set_ 5 f
/-- The best plan, from a plan on. -/
def bstP (v : List Int → Int) (base : Nat) : Nat → List Int → Option (List Int) → Int → List Int × Int
  | 0, _, b, t => (b.getD [], t)
  | f + 1, l, b, t =>
    if (nxS base l.length l).2 = true then bstP v base f (nxS base l.length l).1 (if b = none ∨ t < v l then some l else b) (if b = none ∨ t < v l then v l else t)
    else ((if b = none ∨ t < v l then some l else b).getD [], if b = none ∨ t < v l then v l else t)
/-- The session of choices, and its score. -/
def vbF (L : List Int) (S : List (List Int)) (Q : List Int) (T : List (Int × Int)) (d0 s0 r0 f0 wc ws ww : Int) (l : List Int) : Int :=
  scoF Q L l (folF f0 s0 r0 L S (gvF l) (trF T d0) L.length).w.stalls (folF f0 s0 r0 L S (gvF l) (trF T d0) L.length).w.beg wc ws ww
/-- The fault of Best. -/
def bstF (L : List Int) (S : List (List Int)) (Q : List Int) (T : List (Int × Int)) (d0 s0 r0 f0 i0 k0 l0 t0 lo0 hi0 a0 x0 y0 z0 wc ws ww : Int) : Int :=
  if runF L S Q T d0 s0 r0 f0 i0 k0 l0 t0 lo0 hi0 a0 x0 y0 z0 ≠ 0 then runF L S Q T d0 s0 r0 f0 i0 k0 l0 t0 lo0 hi0 a0 x0 y0 z0 else if wtsF wc ws ww ≠ 0 then wtsF wc ws ww else if manyN (S.length : Int) 1 L.length = true then 2 else 0
/-- What Best answers. -/
def bstV (L : List Int) (S : List (List Int)) (Q : List Int) (T : List (Int × Int)) (d0 s0 r0 f0 i0 k0 l0 t0 lo0 hi0 a0 x0 y0 z0 wc ws ww : Int) : List Int × Int :=
  if bstF L S Q T d0 s0 r0 f0 i0 k0 l0 t0 lo0 hi0 a0 x0 y0 z0 wc ws ww = 0 then bstP (vbF L S Q T d0 s0 r0 f0 wc ws ww) S.length (S.length ^ L.length) (List.replicate L.length 0) none 0 else ([], 0)
def BestGives (w : World) (F : Int) (r : List Int × Int) (e : Ending) (w' : World) : Prop :=
  ∃ A n c, e = .returned (.tuple #[.slice A n c, .int .i64 r.2, .int .i64 F]) ∧ At w' 1 e64 A n c r.1 ∧ Ext w w'
theorem fol_ch {full start resume : Int} {L : List Int} {S : List (List Int)} {C : List Int} {av : Int → Int → Int} : ∀ n, n ≤ C.length → (folF full start resume L S (gvF C) av n).ch = C.take n
  | 0, _ => by simp [folF, FoT.zero]
  | n + 1, h => by
    have ih := fol_ch (full := full) (start := start) (resume := resume) (L := L) (S := S) (C := C) (av := av) n (by omega)
    have e : (folF full start resume L S (gvF C) av (n + 1)).ch = (folF full start resume L S (gvF C) av n).ch ++ [C.getD n 0] := rfl
    rw [e, ih, List.take_succ_eq_append_getElem (by omega)]
    simp [List.getD, show n < C.length by omega]
theorem rngB_of {lo hi : Int} : ∀ l : List Int, (∀ i, i < l.length → lo ≤ l.getD i 0 ∧ l.getD i 0 ≤ hi) → rngB lo hi l = false
  | [], _ => rfl
  | y :: r, h => by
    rw [rngB_cons, rngB_of r (fun i hi2 => by have := h (i + 1) (by simp; omega); simpa using this)]
    have := h 0 (by simp)
    simp only [List.getD_cons_zero] at this
    simp
    omega
theorem chsF_digs {n base : Nat} {l : List Int} (hl : l.length = n) (hd : digs base l) : chsF n base l = 0 := by
  unfold chsF
  rw [if_neg (by omega), rngB_of l (fun i hi => by have := hd i hi; omega)]
  simp
/-- The numbers of a row, as they are in memory. -/
def rdW (w : World) (g n : Nat) : List Int := (List.range n).map fun i => match w.cell? ⟨g, i, none⟩ with | some (.int _ x) => x | _ => 0
theorem rd_own {w : World} {B g n c : Nat} {t : TypeId} {l : List Int} (h : Own w B t 1 e64 (.slice (some ⟨g, 0, none⟩) n c) l) : rdW w g n = l := by
  have hl := h.len len_e64
  have ha := h.atS len_e64
  refine ext_getD (by simp [rdW, hl]) fun i hi => ?_
  simp [rdW] at hi
  have h1 := ha.num hi
  rw [Nat.zero_add] at h1
  simp [rdW, List.getD_eq_getElem?_getD, hi, h1]
theorem Try.infoB : (Try.prog.info? 3).map (fun i => (i.zero, i.size, i.bytes)) = some (some (.int .i64 0), 1, 8) := by kernel_rfl
theorem flat_rep (n : Nat) : (List.replicate n (0 : Int)).flatMap e64 = List.replicate n (.int .i64 0) := by
  induction n with
  | zero => rfl
  | succ n ih => rw [List.replicate_succ, List.flatMap_cons, ih]; rfl
theorem made_own {w : World} {B n : Nat} {v : Value} {t : TypeId} (h : w.ownsRow B t 1 v n (madeCells #[Value.int .i64 0] n).toList) : Own w B t 1 e64 v (List.replicate n 0) := by
  unfold Own
  have e : (List.replicate n (0 : Int)).flatMap e64 = (madeCells #[Value.int .i64 0] n).toList := by
    apply List.ext_getElem
    · simp [madeCells, List.length_flatMap]
    · intro i h1 h2
      simp [madeCells, Nat.mod_one, flat_rep]
  rw [List.length_replicate, e]
  exact h
theorem digs_zero {base n : Nat} (hb : 0 < base) : digs base (List.replicate n 0) := fun i hi => by
  have hi2 : i < n := by simpa using hi
  have : (List.replicate n (0 : Int)).getD i 0 = 0 := by simp [List.getD_eq_getElem?_getD, hi2]
  omega
theorem val_zero {base : Nat} : ∀ n : Nat, valL base (List.replicate n 0) = 0
  | 0 => rfl
  | n + 1 => by
    rw [List.replicate_succ]
    simp [valL, val_zero n]
/-- The loop of Best: what is known at its head. -/
def BsI (W : World) (g n B base : Nat) (v : List Int → Int) (tgt : List Int × Int) (rb : Value) (t : Int) (mo : Bool) (l : List Int) (b : Option (List Int)) : Prop :=
  (mo = true → l.length = n ∧ digs base l ∧ Own W B 3 1 e64 (.slice (some ⟨g, 0, none⟩) n n) l ∧ bstP v base (base ^ n - valL base l) l b t = tgt) ∧ (mo = false → (b.getD [], t) = tgt) ∧
  (b = none → rb = .slice none 0 0) ∧ (∀ x, b = some x → ∃ a c, rb = .slice (some a) n c ∧ At W 1 e64 (some a) n c x ∧ a.block ≠ g ∧ a.block < W.heap.size)
/-- A round of it, in plain words. -/
theorem bst_step {n base : Nat} {v : List Int → Int} {tgt : List Int × Int} {t : Int} {l : List Int} {b : Option (List Int)} (hl : l.length = n) (hd : digs base l) (hb : 0 < base) (h : bstP v base (base ^ n - valL base l) l b t = tgt) :
    ((nxS base n l).2 = true → bstP v base (base ^ n - valL base (nxS base n l).1) (nxS base n l).1 (if b = none ∨ t < v l then some l else b) (if b = none ∨ t < v l then v l else t) = tgt ∧ valL base l < valL base (nxS base n l).1) ∧
    ((nxS base n l).2 = false → ((if b = none ∨ t < v l then some l else b).getD [], if b = none ∨ t < v l then v l else t) = tgt) := by
  have hv := valL_lt hb l hd
  rw [hl] at hv
  obtain ⟨m, hm⟩ : ∃ m, base ^ n - valL base l = m + 1 := ⟨base ^ n - valL base l - 1, by omega⟩
  rw [hm] at h
  unfold bstP at h
  rw [hl] at h
  constructor
  · intro h1
    rw [if_pos h1] at h
    have h2 := nxS_val hb n l (by omega) hd h1
    rw [hl, Nat.sub_self, Nat.pow_zero] at h2
    refine ⟨?_, by omega⟩
    rw [show base ^ n - valL base (nxS base n l).1 = m by omega]
    exact h
  · intro h1
    rw [if_neg (by simp [h1])] at h
    exact h
theorem BsI.next {W W9 : World} {g n B base : Nat} {v : List Int → Int} {tgt : List Int × Int} {rb rb' : Value} {t t' : Int} {l : List Int} {b : Option (List Int)} (h : BsI W g n B base v tgt rb t true l b) (hb : 0 < base)
    (hO : (nxS base n l).2 = true → Own W9 B 3 1 e64 (.slice (some ⟨g, 0, none⟩) n n) (nxS base n l).1)
    (hr : (b = none ∨ t < v l) → t' = v l ∧ ∃ a c, rb' = .slice (some a) n c ∧ At W9 1 e64 (some a) n c l ∧ a.block ≠ g ∧ a.block < W9.heap.size)
    (hs : ¬ (b = none ∨ t < v l) → t' = t ∧ rb' = rb ∧ ∀ a c x, At W 1 e64 (some a) n c x → a.block ≠ g → a.block < W.heap.size → At W9 1 e64 (some a) n c x ∧ a.block < W9.heap.size) :
    BsI W9 g n B base v tgt rb' t' (nxS base n l).2 (nxS base n l).1 (if b = none ∨ t < v l then some l else b) ∧
    (match Value.bool (nxS base n l).2 with | .bool true => base ^ n - valL base (rdW W9 g n) | _ => 0) < (match Value.bool true with | .bool true => base ^ n - valL base (rdW W g n) | _ => 0) := by
  obtain ⟨h1, _, h3, h4⟩ := h
  obtain ⟨hl, hd, hown, ht⟩ := h1 rfl
  obtain ⟨s1, s2⟩ := bst_step hl hd hb ht
  have hv := valL_lt hb l hd
  rw [hl] at hv
  have et : (if b = none ∨ t < v l then v l else t) = t' := by
    by_cases c : b = none ∨ t < v l
    · rw [if_pos c, (hr c).1]
    · rw [if_neg c, (hs c).1]
  rw [et] at s1 s2
  refine ⟨⟨fun h0 => ⟨by rw [nxS_len]; exact hl, nxS_digs (by omega) n l (by omega) hd, hO h0, (s1 h0).1⟩, fun h0 => s2 h0, fun h0 => ?_, fun x hx => ?_⟩, ?_⟩
  · by_cases c : b = none ∨ t < v l
    · rw [if_pos c] at h0; cases h0
    · rw [if_neg c] at h0; exact absurd (.inl h0) c
  · by_cases c : b = none ∨ t < v l
    · rw [if_pos c] at hx
      injection hx with hx
      subst hx
      exact (hr c).2
    · rw [if_neg c] at hx
      obtain ⟨a, c5, k1, k2, k3, k4⟩ := h4 x hx
      obtain ⟨_, r1, r2⟩ := hs c
      obtain ⟨q1, q2⟩ := r2 a c5 x k2 k3 k4
      exact ⟨a, c5, by rw [r1, k1], q1, k3, q2⟩
  · rw [rd_own hown]
    cases hn : (nxS base n l).2 with
    | false => simp only; omega
    | true =>
      simp only
      rw [rd_own (hO hn)]
      have := (s1 hn).2
      omega
theorem own_empty (w : World) (t : TypeId) {base : Nat} (hb : base ≤ w.heap.size) : Own (w.alloc (.cells #[] t)) base t 1 e64 (.slice (some ⟨w.heap.size, 0, none⟩) 0 0) ([] : List Int) :=
  ⟨rfl, .inr ⟨w.heap.size, 0, #[], rfl, hb, Blk.new w t _, Nat.le_refl _, by unfold maxLen; omega, rfl, rfl⟩⟩
theorem at_lt {w : World} {a : Addr} {n c : Nat} {l : List Int} (h : At w 1 e64 (some a) n c l) (hn : 0 < n) : a.block < w.heap.size := by
  obtain ⟨b, off, e, _⟩ := h.addr hn
  injection e with e
  subst e
  have := cell_lt (h.num hn)
  simpa using this
section
variable {lA : Option Addr} {ln lc : Nat} {sA : Option Addr} {sn sc : Nat} {qA : Option Addr} {qn qc : Nat} {w : World} {L : List Int} {S : List (List Int)} {Q : List Int} {T : List (Int × Int)}
set_option linter.unusedVariables false in
set_option maxRecDepth 1000000 in
set_option maxHeartbeats 32000000 in
theorem keyBest_any {d0 s0 r0 f0 i0 k0 l0 t0 lo0 hi0 a0 x0 y0 z0 wc ws ww : Int} {tA : Option Addr} {tn tc : Nat} (h : Shw w lA ln lc sA sn sc qA qn qc L S Q) (hT : At w 2 e2 tA tn tc T) :
    Calls Try.prog 16 #[shV lA ln lc sA sn sc qA qn qc, .slice tA tn tc, plV d0 s0 r0 f0 i0 k0 l0 t0 lo0 hi0 a0 x0 y0 z0, wtsV wc ws ww] w (BestGives w (bstF L S Q T d0 s0 r0 f0 i0 k0 l0 t0 lo0 hi0 a0 x0 y0 z0 wc ws ww) (bstV L S Q T d0 s0 r0 f0 i0 k0 l0 t0 lo0 hi0 a0 x0 y0 z0 wc ws ww)) := by
  have HR := hide (fun (W : World) (hW : Ext w W) => runFault_any (d := d0) (s := s0) (r := r0) (f := f0) (i := i0) (k := k0) (l := l0) (t := t0) (lo := lo0) (hi := hi0) (a := a0) (x := x0) (y := y0) (z := z0) (h.ext hW) (hT.ext hW))
  have HWT := hide (fun (W : World) => keyWts_any (a := wc) (b := ws) (c := ww) (w := W))
  have hLn := h.longs.len
  have hSn := h.sizes.len
  have hQn := h.qual.len
  have hvF : bstF L S Q T d0 s0 r0 f0 i0 k0 l0 t0 lo0 hi0 a0 x0 y0 z0 wc ws ww = if runF L S Q T d0 s0 r0 f0 i0 k0 l0 t0 lo0 hi0 a0 x0 y0 z0 ≠ 0 then runF L S Q T d0 s0 r0 f0 i0 k0 l0 t0 lo0 hi0 a0 x0 y0 z0 else if wtsF wc ws ww ≠ 0 then wtsF wc ws ww else if manyN (sn : Int) 1 ln = true then 2 else 0 := by unfold bstF; rw [hLn, hSn]
  have hvV : bstV L S Q T d0 s0 r0 f0 i0 k0 l0 t0 lo0 hi0 a0 x0 y0 z0 wc ws ww = if bstF L S Q T d0 s0 r0 f0 i0 k0 l0 t0 lo0 hi0 a0 x0 y0 z0 wc ws ww = 0 then bstP (vbF L S Q T d0 s0 r0 f0 wc ws ww) sn (sn ^ ln) (List.replicate ln 0) none 0 else ([], 0) := by unfold bstV; rw [hLn, hSn]
  have HZ : Hid (runF L S Q T d0 s0 r0 f0 i0 k0 l0 t0 lo0 hi0 a0 x0 y0 z0 = 0 → filmF L S Q = 0 ∧ trcF T = 0 ∧ (0 ≤ d0 ∧ d0 ≤ 100000) ∧ (1 ≤ f0 ∧ f0 ≤ 1000000000)) := hide (fun h1 => runF_zero h1)
  have HH := hide h
  have HTT := hide hT
  have HLS := hide (And.intro hLn (And.intro hSn hQn))
  generalize bstF L S Q T d0 s0 r0 f0 i0 k0 l0 t0 lo0 hi0 a0 x0 y0 z0 wc ws ww = vF at *
  generalize bstV L S Q T d0 s0 r0 f0 i0 k0 l0 t0 lo0 hi0 a0 x0 y0 z0 wc ws ww = vV at *
  have HV := hide (And.intro hvF hvV)
  clear hvF hvV h hT hLn hSn hQn
  have HX : Hid (Ext w (((w.alloc (.cells #[.slice lA ln lc, .slice sA sn sc, .slice qA qn qc] 25)).alloc (.cells #[.int .i64 d0, .int .i64 s0, .int .i64 r0, .int .i64 f0, .int .i64 i0, .int .i64 k0, .int .i64 l0, .int .i64 t0, .int .i64 lo0, .int .i64 hi0, .int .i64 a0, .int .i64 x0, .int .i64 y0, .int .i64 z0] 30)).alloc (.cells #[.int .i64 wc, .int .i64 ws, .int .i64 ww] 28))) := hide (ext_alloc (ext_alloc (Ext.alloc _ _) _) _)
  have hb0 := ((Blk.new w 25 #[.slice lA ln lc, .slice sA sn sc, .slice qA qn qc]).alloc (.cells #[.int .i64 d0, .int .i64 s0, .int .i64 r0, .int .i64 f0, .int .i64 i0, .int .i64 k0, .int .i64 l0, .int .i64 t0, .int .i64 lo0, .int .i64 hi0, .int .i64 a0, .int .i64 x0, .int .i64 y0, .int .i64 z0] 30)).alloc (.cells #[.int .i64 wc, .int .i64 ws, .int .i64 ww] 28)
  have hb1 := (Blk.new (w.alloc (.cells #[.slice lA ln lc, .slice sA sn sc, .slice qA qn qc] 25)) 30 #[.int .i64 d0, .int .i64 s0, .int .i64 r0, .int .i64 f0, .int .i64 i0, .int .i64 k0, .int .i64 l0, .int .i64 t0, .int .i64 lo0, .int .i64 hi0, .int .i64 a0, .int .i64 x0, .int .i64 y0, .int .i64 z0]).alloc (.cells #[.int .i64 wc, .int .i64 ws, .int .i64 ww] 28)
  have hb2 := Blk.new ((w.alloc (.cells #[.slice lA ln lc, .slice sA sn sc, .slice qA qn qc] 25)).alloc (.cells #[.int .i64 d0, .int .i64 s0, .int .i64 r0, .int .i64 f0, .int .i64 i0, .int .i64 k0, .int .i64 l0, .int .i64 t0, .int .i64 lo0, .int .i64 hi0, .int .i64 a0, .int .i64 x0, .int .i64 y0, .int .i64 z0] 30)) 28 #[.int .i64 wc, .int .i64 ws, .int .i64 ww]
  simp only [World.size_alloc] at hb1 hb2
  have B0 := hide hb0
  have B1 := hide hb1
  have B2 := hide hb2
  clear hb0 hb1 hb2
  go_enter Try.func16, Try.ntmps16
  go_wp2_with fail
  refine (HR.out _ HX.out).mono ?_
  rintro e w1 ⟨rfl, e1⟩
  have E1 := hide (Ext.trans HX.out e1)
  have B0 := hide (B0.out.ext e1)
  have B1 := hide (B1.out.ext e1)
  have B2 := hide (B2.out.ext e1)
  clear e1 HX HR
  generalize runF L S Q T d0 s0 r0 f0 i0 k0 l0 t0 lo0 hi0 a0 x0 y0 z0 = q1 at *
  by_cases c1 : q1 = 0
  rotate_left
  · have i1 : (q1 != 0) = true := by simp [c1]
    have HVF : Hid (vF = q1 ∧ vV = ([], 0)) := hide (by obtain ⟨h1, h2⟩ := HV.out; have h3 : vF = q1 := (by rw [h1, if_pos c1]); exact ⟨h3, by rw [h2, if_neg (by omega)]⟩)
    clear c1 HV
    go_wp2_with fail
    go_ret3
    exact ⟨none, 0, 0, by rw [HVF.out.1, HVF.out.2]; rfl, by rw [HVF.out.2]; exact At.nil _ _ _, E1.out⟩
  have i1 : (q1 != 0) = false := by simp [c1]
  obtain ⟨z1, z2, z3, z4⟩ := HZ.out c1
  have HZ1 := hide (And.intro z1 (And.intro z2 (And.intro z3 z4)))
  have ok := filmF_ok z1
  have hl1 : ln ≤ 200 := by have := ok.l1; have := HLS.out; omega
  have hl0 : 0 < ln := by have := ok.l0; have := HLS.out; omega
  have hs1 : sn ≤ 20 := by have := ok.s1; have := HLS.out; omega
  have hs0 : 0 < sn := by have := ok.s0; have := HLS.out; omega
  have HQ1 : Hid (qn = sn) := hide (by have := ok.q; have := HLS.out; omega)
  have HC1 := hide c1
  clear c1 z1 z2 z3 z4 ok HZ
  have m0 := B2.out.cell 0
  have m1 := B2.out.cell 1
  have m2 := B2.out.cell 2
  go_wp2_with fail
  refine (HWT.out _).mono ?_
  rintro e w2 ⟨rfl, e2⟩
  have E2 := hide (Ext.trans E1.out e2)
  have B0 := hide (B0.out.ext e2)
  have B1 := hide (B1.out.ext e2)
  have B2 := hide (B2.out.ext e2)
  clear e2 HWT E1 i1 m0 m1 m2
  generalize wtsF wc ws ww = q2 at *
  have c1 := HC1.out
  by_cases c2 : q2 = 0
  rotate_left
  · have i1 : (q2 != 0) = true := by simp [c2]
    have HVF : Hid (vF = q2 ∧ vV = ([], 0)) := hide (by obtain ⟨h1, h2⟩ := HV.out; have h3 : vF = q2 := (by rw [h1, if_neg (by omega), if_pos c2]); exact ⟨h3, by rw [h2, if_neg (by omega)]⟩)
    clear c1 c2 HV
    go_wp2_with fail
    go_ret3
    exact ⟨none, 0, 0, by rw [HVF.out.1, HVF.out.2]; rfl, by rw [HVF.out.2]; exact At.nil _ _ _, E2.out⟩
  have i1 : (q2 != 0) = false := by simp [c2]
  have HMY := hide (fun (W : World) => many_any (base := (sn : Int)) (power := ln) (by omega) (by omega) W)
  have HV2 : Hid (manyN (sn : Int) 1 ln = true → vF = 2 ∧ vV = ([], 0)) := hide (fun hm => by obtain ⟨h1, h2⟩ := HV.out; have h3 : vF = 2 := (by rw [h1, if_neg (by omega), if_neg (by omega), if_pos hm]); exact ⟨h3, by rw [h2, if_neg (by omega)]⟩)
  have HV3 : Hid (manyN (sn : Int) 1 ln = false → vF = 0 ∧ vV = bstP (vbF L S Q T d0 s0 r0 f0 wc ws ww) sn (sn ^ ln) (List.replicate ln 0) none 0) := hide (fun hm => by obtain ⟨h1, h2⟩ := HV.out; have h3 : vF = 0 := (by rw [h1, if_neg (by omega), if_neg (by omega), if_neg (by simp [hm])]); exact ⟨h3, by rw [h2, if_pos h3]⟩)
  generalize manyN (sn : Int) 1 ln = my at *
  clear HV c1 c2
  have r0 := B0.out.cell 0
  have r1 := B0.out.cell 1
  go_wp2_with fail
  refine (HMY.out _).mono ?_
  rintro e w3 ⟨rfl, e3⟩
  have E3 := hide (Ext.trans E2.out e3)
  have B0 := hide (B0.out.ext e3)
  have B1 := hide (B1.out.ext e3)
  have B2 := hide (B2.out.ext e3)
  clear e3 HMY E2 i1 r0 r1
  cases my with
  | true =>
    have HVF := hide (HV2.out rfl)
    clear HV2 HV3
    go_wp2_with fail
    go_ret3
    exact ⟨none, 0, 0, by rw [HVF.out.1, HVF.out.2]; rfl, by rw [HVF.out.2]; exact At.nil _ _ _, E3.out⟩
  | false =>
    have HVF := hide (HV3.out rfl)
    clear HV2 HV3
    have r0 := B0.out.cell 0
    have HG3 : Hid (w.heap.size + 1 + 1 < w3.heap.size) := hide B2.out.lt
    obtain ⟨iK, hiK, hz0, hz1, hz2⟩ := info_parts Try.infoB
    go_wp2_with (at_make; refine wpList_make_full _ rfl _ _ 22 rfl w3.heap.size 3 iK _ 1 Try.underlying22 hiK hz0 hz1 _ _ _ _ ln rfl rfl rfl rfl ?b1 ?b2 ?b3 ?_)
    case b1 => rw [hz2]; omega
    case b2 => unfold maxLen; omega
    case b3 => exact Nat.le_refl _
    intro w4 hown hg4
    have O4 : Hid (Own w4 w3.heap.size 3 1 e64 (.slice (some ⟨w3.heap.size, 0, none⟩) ln ln) (List.replicate ln 0)) := hide (made_own hown)
    have X4 : Ext w3 w4 := (Below.refl _ _).grown hg4 (Nat.le_refl _) (fun k h => by cases h)
    have E4 := hide (Ext.trans E3.out X4)
    have B0 := hide (B0.out.ext X4)
    have B1 := hide (B1.out.ext X4)
    have B2 := hide (B2.out.ext X4)
    clear hown hg4 X4 r0
    generalize hG : w3.heap.size = G at *
    have hG2 : w.heap.size + 1 + 1 < G := HG3.out
    clear hG
    go_wp2_with fail
    have HTG : Hid (BsI w4 G ln G sn (vbF L S Q T d0 s0 r0 f0 wc ws ww) vV (.slice none 0 0) 0 true (List.replicate ln 0) none) := hide ⟨fun _ => ⟨by simp, digs_zero (by omega), O4.out, by rw [HVF.out.2, val_zero, Nat.sub_zero]⟩, fun h => (by cases h), fun _ => rfl, fun x h => (by cases h)⟩
    go_loopw [14, 15, 16] (fun rb rt rm wr => ∃ (l : List Int) (b : Option (List Int)) (t : Int) (mo : Bool), rt = .int .i64 t ∧ rm = .bool mo ∧ Hid (BsI wr G ln G sn (vbF L S Q T d0 s0 r0 f0 wc ws ww) vV rb t mo l b) ∧ Hid (Tw w4 wr G none)) (fun _ _ rm wr => match rm with | .bool true => sn ^ ln - valL sn (rdW wr G ln) | _ => 0)
    case atStart => exact ⟨_, _, 0, true, rfl, rfl, HTG, hide (Tw.refl _ _ _)⟩
    case round =>
      obtain ⟨l, b, t, mo, rfl, rfl, HI, HTW⟩ := hrel
      cases mo with
      | false =>
        obtain ⟨_, he, hn, hs⟩ := HI.out
        have HTGT := hide (he rfl)
        have X9 := hide (Below.trans E4.out (HTW.out.below E4.out.size (by omega) (fun g h => by cases h)))
        cases b with
        | none =>
          have hrb := hn rfl
          subst hrb
          clear he hn hs
          go_wp2_with fail
          go_ret3
          exact ⟨none, 0, 0, by rw [HVF.out.1, ← HTGT.out]; rfl, by rw [← HTGT.out]; exact At.nil _ _ _, X9.out⟩
        | some x =>
          obtain ⟨a, c, hrb, ha, _, _⟩ := hs x rfl
          have HA9 := hide ha
          subst hrb
          clear he hn hs ha
          go_wp2_with fail
          go_ret3
          exact ⟨_, _, _, by rw [HVF.out.1, ← HTGT.out]; rfl, by rw [← HTGT.out]; exact HA9.out, X9.out⟩
      | true =>
        obtain ⟨h1I, _, hbn, hbs⟩ := HI.out
        obtain ⟨hll, hdl, hol, _⟩ := h1I rfl
        clear h1I
        have HLL := hide hll
        have HDL := hide hdl
        have HOL := hide hol
        have HBB := hide (And.intro hbn hbs)
        have B0 := hide (HTW.out.blk B0.out (by omega) (by simp))
        have B1 := hide (HTW.out.blk B1.out (by omega) (by simp))
        have B2 := hide (HTW.out.blk B2.out (by omega) (by simp))
        have ER := hide (Below.trans E4.out (HTW.out.below E4.out.size (by omega) (fun g h => by cases h)))
        obtain ⟨z1, z2, z3, z4⟩ := HZ1.out
        have hchs : chsF L.length S.length l = 0 := chsF_digs (by rw [hll]; exact HLS.out.1.symm) (by rw [HLS.out.2.1]; exact hdl)
        have HAT : Hid (At wr 1 e64 (some ⟨G, 0, none⟩) ln ln l) := hide (hol.atS len_e64)
        have HFO := hide (fun (W : World) (q1 q2 q3 : Nat) (hW : Ext wr W) (b1 : Blk W q1 22 #[.slice (some ⟨G, 0, none⟩) ln ln]) (b2 : Blk W q2 26 #[.slice tA tn tc]) (b3 : Blk W q3 30 #[.int .i64 d0, .int .i64 s0, .int .i64 r0, .int .i64 f0, .int .i64 i0, .int .i64 k0, .int .i64 l0, .int .i64 t0, .int .i64 lo0, .int .i64 hi0, .int .i64 a0, .int .i64 x0, .int .i64 y0, .int .i64 z0]) => follow_with z1 z2 z3 z4 hchs (HH.out.ext (Ext.trans ER.out hW)) (HTT.out.ext (Ext.trans ER.out hW)) (HAT.out.ext hW) b1 b2 b3)
        have HCH : Hid ((folF f0 s0 r0 L S (gvF l) (trF T d0) L.length).ch = l) := hide (by have hq := HLS.out.1; rw [fol_ch _ (by omega)]; exact List.take_of_length_le (by omega))
        have HVB : Hid ((vbF L S Q T d0 s0 r0 f0 wc ws ww) l = scoF Q L l (folF f0 s0 r0 L S (gvF l) (trF T d0) L.length).w.stalls (folF f0 s0 r0 L S (gvF l) (trF T d0) L.length).w.beg wc ws ww) := hide rfl
        generalize folF f0 s0 r0 L S (gvF l) (trF T d0) L.length = F at *
        generalize hvb : (vbF L S Q T d0 s0 r0 f0 wc ws ww) = vb at *
        have HSC := hide (fun (W : World) (hW : Ext wr W) {cA aA rA tA5 : Option Addr} {cc an ac rn rc mt tc5 : Nat} {en : Int} (h1 : At W 1 e64 cA ln cc l) (h2 : At W 2 e2 tA5 mt tc5 F.w.stalls) => keyScore_any (aA := aA) (an := an) (ac := ac) (rA := rA) (rn := rn) (rc := rc) (beg := F.w.beg) (en := en) (wc := wc) (ws := ws) (ww := ww) (HH.out.ext (Ext.trans ER.out hW)) h1 h2 (by have := HLS.out.1; omega) (fun i hi => by have := HDL.out i hi; have := HLS.out; have := HQ1.out; omega))
        have HNX := hide (fun (W : World) (hO : Own W G 3 1 e64 (.slice (some ⟨G, 0, none⟩) ln ln) l) => nextCh_any (base := (sn : Int)) hO hl1 HDL.out ⟨by omega, by omega⟩)
        clear hvb hll hdl hol hbn hbs z1 z2 z3 z4 hchs HZ1 HTG O4 E4
        go_upto_region 15 with (fail)
        refine gen_wpC fun W0 h0 => ?_
        have X0 : Hid (Ext wr W0) := hide (by rw [h0]; exact (by repeat' (first | (with_reducible exact Below.refl _ _) | (with_reducible assumption) | (with_reducible refine below_drewN ?_ _) | (with_reducible refine Below.drew ?_) | (with_reducible refine ext_alloc ?_ _) | (with_reducible refine Below.setCell ?_ ?_ _) | go_size)))
        clear h0
        go_cut [17] (fun s17 wx => ∃ g17 cA5 cc5 aA5 ac5 rA5 rc5 tA5 tc5, s17 = .pointer (some ⟨g17, 0, none⟩) ∧ Hid (Blk wx g17 33 #[.slice cA5 F.ch.length cc5, .slice aA5 F.asd.length ac5, .slice rA5 F.arr.length rc5, .int .i64 F.w.beg, .slice tA5 F.w.stalls.length tc5, .int .i64 (F.w.at_ + F.w.buf)]) ∧ Hid (At wx 1 e64 cA5 F.ch.length cc5 F.ch) ∧ Hid (At wx 2 e2 tA5 F.w.stalls.length tc5 F.w.stalls) ∧ Hid (∀ a, cA5 = some a → wr.heap.size ≤ a.block) ∧ Hid (Ext wr wx))
        case first =>
          have g0 : W0.cell? ⟨w.heap.size, 0, none⟩ = some (.slice lA ln lc) := (B0.out.ext X0.out).cell 0
          have g1 : W0.cell? ⟨w.heap.size, 1, none⟩ = some (.slice sA sn sc) := (B0.out.ext X0.out).cell 1
          have g2 : W0.cell? ⟨w.heap.size, 2, none⟩ = some (.slice qA qn qc) := (B0.out.ext X0.out).cell 2
          have g3 : W0.cell? ⟨w.heap.size + 1, 0, none⟩ = some (.int .i64 d0) := (B1.out.ext X0.out).cell 0
          have g4 : W0.cell? ⟨w.heap.size + 1, 1, none⟩ = some (.int .i64 s0) := (B1.out.ext X0.out).cell 1
          have g5 : W0.cell? ⟨w.heap.size + 1, 2, none⟩ = some (.int .i64 r0) := (B1.out.ext X0.out).cell 2
          have g6 : W0.cell? ⟨w.heap.size + 1, 3, none⟩ = some (.int .i64 f0) := (B1.out.ext X0.out).cell 3
          have g7 : W0.cell? ⟨w.heap.size + 1, 4, none⟩ = some (.int .i64 i0) := (B1.out.ext X0.out).cell 4
          have g8 : W0.cell? ⟨w.heap.size + 1, 5, none⟩ = some (.int .i64 k0) := (B1.out.ext X0.out).cell 5
          have g9 : W0.cell? ⟨w.heap.size + 1, 6, none⟩ = some (.int .i64 l0) := (B1.out.ext X0.out).cell 6
          have g10 : W0.cell? ⟨w.heap.size + 1, 7, none⟩ = some (.int .i64 t0) := (B1.out.ext X0.out).cell 7
          have g11 : W0.cell? ⟨w.heap.size + 1, 8, none⟩ = some (.int .i64 lo0) := (B1.out.ext X0.out).cell 8
          have g12 : W0.cell? ⟨w.heap.size + 1, 9, none⟩ = some (.int .i64 hi0) := (B1.out.ext X0.out).cell 9
          have g13 : W0.cell? ⟨w.heap.size + 1, 10, none⟩ = some (.int .i64 a0) := (B1.out.ext X0.out).cell 10
          have g14 : W0.cell? ⟨w.heap.size + 1, 11, none⟩ = some (.int .i64 x0) := (B1.out.ext X0.out).cell 11
          have g15 : W0.cell? ⟨w.heap.size + 1, 12, none⟩ = some (.int .i64 y0) := (B1.out.ext X0.out).cell 12
          have g16 : W0.cell? ⟨w.heap.size + 1, 13, none⟩ = some (.int .i64 z0) := (B1.out.ext X0.out).cell 13
          have HS : Hid (∀ w', Ext W0 w' → w'.cell? ⟨w.heap.size, 0, none⟩ = some (.slice lA ln lc) ∧ w'.cell? ⟨w.heap.size, 1, none⟩ = some (.slice sA sn sc) ∧ w'.cell? ⟨w.heap.size, 2, none⟩ = some (.slice qA qn qc) ∧ w'.cell? ⟨w.heap.size + 1, 0, none⟩ = some (.int .i64 d0) ∧ w'.cell? ⟨w.heap.size + 1, 1, none⟩ = some (.int .i64 s0) ∧ w'.cell? ⟨w.heap.size + 1, 2, none⟩ = some (.int .i64 r0) ∧ w'.cell? ⟨w.heap.size + 1, 3, none⟩ = some (.int .i64 f0) ∧ w'.cell? ⟨w.heap.size + 1, 4, none⟩ = some (.int .i64 i0) ∧ w'.cell? ⟨w.heap.size + 1, 5, none⟩ = some (.int .i64 k0) ∧ w'.cell? ⟨w.heap.size + 1, 6, none⟩ = some (.int .i64 l0) ∧ w'.cell? ⟨w.heap.size + 1, 7, none⟩ = some (.int .i64 t0) ∧ w'.cell? ⟨w.heap.size + 1, 8, none⟩ = some (.int .i64 lo0) ∧ w'.cell? ⟨w.heap.size + 1, 9, none⟩ = some (.int .i64 hi0) ∧ w'.cell? ⟨w.heap.size + 1, 10, none⟩ = some (.int .i64 a0) ∧ w'.cell? ⟨w.heap.size + 1, 11, none⟩ = some (.int .i64 x0) ∧ w'.cell? ⟨w.heap.size + 1, 12, none⟩ = some (.int .i64 y0) ∧ w'.cell? ⟨w.heap.size + 1, 13, none⟩ = some (.int .i64 z0)) := hide (fun w' EX => ⟨EX.cell g0, EX.cell g1, EX.cell g2, EX.cell g3, EX.cell g4, EX.cell g5, EX.cell g6, EX.cell g7, EX.cell g8, EX.cell g9, EX.cell g10, EX.cell g11, EX.cell g12, EX.cell g13, EX.cell g14, EX.cell g15, EX.cell g16⟩)
          have EX := Ext.drew W0
          clear HSC HNX HBB B0 B1 B2 HI HTW
          go_region_held3 (fun w' => w'.cell? ⟨w.heap.size, 0, none⟩ = some (.slice lA ln lc) ∧ w'.cell? ⟨w.heap.size, 1, none⟩ = some (.slice sA sn sc) ∧ w'.cell? ⟨w.heap.size, 2, none⟩ = some (.slice qA qn qc) ∧ w'.cell? ⟨w.heap.size + 1, 0, none⟩ = some (.int .i64 d0) ∧ w'.cell? ⟨w.heap.size + 1, 1, none⟩ = some (.int .i64 s0) ∧ w'.cell? ⟨w.heap.size + 1, 2, none⟩ = some (.int .i64 r0) ∧ w'.cell? ⟨w.heap.size + 1, 3, none⟩ = some (.int .i64 f0) ∧ w'.cell? ⟨w.heap.size + 1, 4, none⟩ = some (.int .i64 i0) ∧ w'.cell? ⟨w.heap.size + 1, 5, none⟩ = some (.int .i64 k0) ∧ w'.cell? ⟨w.heap.size + 1, 6, none⟩ = some (.int .i64 l0) ∧ w'.cell? ⟨w.heap.size + 1, 7, none⟩ = some (.int .i64 t0) ∧ w'.cell? ⟨w.heap.size + 1, 8, none⟩ = some (.int .i64 lo0) ∧ w'.cell? ⟨w.heap.size + 1, 9, none⟩ = some (.int .i64 hi0) ∧ w'.cell? ⟨w.heap.size + 1, 10, none⟩ = some (.int .i64 a0) ∧ w'.cell? ⟨w.heap.size + 1, 11, none⟩ = some (.int .i64 x0) ∧ w'.cell? ⟨w.heap.size + 1, 12, none⟩ = some (.int .i64 y0) ∧ w'.cell? ⟨w.heap.size + 1, 13, none⟩ = some (.int .i64 z0)) (first
            | (with_reducible exact HS.out _ EX)
            | (with_reducible exact HS.out _ (ext_setsQ EX (by first | exact Nat.le_refl _ | exact Below.size (by assumption))))
            | (with_reducible exact HS.out _ (Ext.trans EX (Ext.alloc _ _)))) (first
            | (go_at_call 28; (with_reducible refine (given_any _).mono ?_); rintro e w5 ⟨rfl, b5, e5⟩; have EX : Ext W0 w5 := (by first | with_reducible exact Ext.trans EX e5 | with_reducible exact Ext.trans (Ext.trans (Ext.alloc _ _) (Ext.drew _)) e5); (first | have b5' : Blk w5 W0.heap.size 22 #[.slice (some ⟨G, 0, none⟩) ln ln] := b5 | have b5' : Blk w5 (W0.heap.size + 1) 22 #[.slice (some ⟨G, 0, none⟩) ln ln] := (by have hb5 := b5; simp only [World.size_drew, World.size_alloc] at hb5; exact hb5)))
            | (go_at_call 22; (with_reducible refine (onTrace_any _ _ _ _ _ _ _ _ _ _ _ _ _ _ _).mono ?_); rintro e w6 ⟨rfl, ⟨b6, b7⟩, e6⟩; have hsz5 : W0.heap.size ≤ w5.heap.size := EX.size; (first | (have b5' := b5'.ext e6) | (have b5' := (b5'.alloc _).ext e6)); have EX : Ext W0 w6 := (by first | with_reducible exact Ext.trans EX e6 | with_reducible exact Ext.trans (Ext.trans EX (Ext.alloc _ _)) e6); try simp only [World.size_alloc] at b6 b7)
            | (go_at_call 19; (first | with_reducible refine (HFO.out _ _ _ _ (Ext.trans X0.out EX) b5' b6 b7).mono ?_ | with_reducible refine (HFO.out _ _ _ _ (Ext.trans X0.out (Ext.trans EX (Ext.alloc _ _))) (b5'.alloc _) (b6.alloc _) (b7.alloc _)).mono ?_); rintro e w7 ⟨vS, rfl, ⟨cA5, cc5, aA5, ac5, rA5, rc5, tA5, tc5, rfl, m1, m2, m3, m4, m5⟩, hlens, e7⟩; have hsz : W0.heap.size ≤ w6.heap.size := EX.size; have EX : Ext W0 w7 := (by first | with_reducible exact Ext.trans EX e7 | with_reducible exact Ext.trans (Ext.trans EX (Ext.alloc _ _)) e7); have m5' : ∀ a, cA5 = some a → W0.heap.size ≤ a.block := (fun a ha => by have := m5 a (.inl ha); (try simp only [World.size_alloc] at this); omega); clear hlens; (first | (with_reducible have BB := (Blk.new _ 33 #[.slice none 0 0, .slice none 0 0, .slice none 0 0, .int .i64 0, .slice none 0 0, .int .i64 0]).ext e7; have bb0 : w7.cell? ⟨_, 0, none⟩ = some (.slice none 0 0) := BB.cell 0; have bf0 : w7.frozen? ⟨_, 0, none⟩ = false := BB.frozen 0; have bb1 : w7.cell? ⟨_, 1, none⟩ = some (.slice none 0 0) := BB.cell 1; have bf1 : w7.frozen? ⟨_, 1, none⟩ = false := BB.frozen 1; have bb2 : w7.cell? ⟨_, 2, none⟩ = some (.slice none 0 0) := BB.cell 2; have bf2 : w7.frozen? ⟨_, 2, none⟩ = false := BB.frozen 2; have bb3 : w7.cell? ⟨_, 3, none⟩ = some (.int .i64 0) := BB.cell 3; have bf3 : w7.frozen? ⟨_, 3, none⟩ = false := BB.frozen 3; have bb4 : w7.cell? ⟨_, 4, none⟩ = some (.slice none 0 0) := BB.cell 4; have bf4 : w7.frozen? ⟨_, 4, none⟩ = false := BB.frozen 4; have bb5 : w7.cell? ⟨_, 5, none⟩ = some (.int .i64 0) := BB.cell 5; have bf5 : w7.frozen? ⟨_, 5, none⟩ = false := BB.frozen 5) | (with_reducible have BB := (Blk.new _ 33 #[.slice none 0 0, .slice none 0 0, .slice none 0 0, .int .i64 0, .slice none 0 0, .int .i64 0]).ext (Ext.trans e6 e7); have bb0 : w7.cell? ⟨_, 0, none⟩ = some (.slice none 0 0) := BB.cell 0; have bf0 : w7.frozen? ⟨_, 0, none⟩ = false := BB.frozen 0; have bb1 : w7.cell? ⟨_, 1, none⟩ = some (.slice none 0 0) := BB.cell 1; have bf1 : w7.frozen? ⟨_, 1, none⟩ = false := BB.frozen 1; have bb2 : w7.cell? ⟨_, 2, none⟩ = some (.slice none 0 0) := BB.cell 2; have bf2 : w7.frozen? ⟨_, 2, none⟩ = false := BB.frozen 2; have bb3 : w7.cell? ⟨_, 3, none⟩ = some (.int .i64 0) := BB.cell 3; have bf3 : w7.frozen? ⟨_, 3, none⟩ = false := BB.frozen 3; have bb4 : w7.cell? ⟨_, 4, none⟩ = some (.slice none 0 0) := BB.cell 4; have bf4 : w7.frozen? ⟨_, 4, none⟩ = false := BB.frozen 4; have bb5 : w7.cell? ⟨_, 5, none⟩ = some (.int .i64 0) := BB.cell 5; have bf5 : w7.frozen? ⟨_, 5, none⟩ = false := BB.frozen 5) | (with_reducible have BB := (Blk.new _ 33 #[.slice none 0 0, .slice none 0 0, .slice none 0 0, .int .i64 0, .slice none 0 0, .int .i64 0]).drew.ext (Ext.trans e5 (Ext.trans e6 e7)); have bb0 : w7.cell? ⟨_, 0, none⟩ = some (.slice none 0 0) := BB.cell 0; have bf0 : w7.frozen? ⟨_, 0, none⟩ = false := BB.frozen 0; have bb1 : w7.cell? ⟨_, 1, none⟩ = some (.slice none 0 0) := BB.cell 1; have bf1 : w7.frozen? ⟨_, 1, none⟩ = false := BB.frozen 1; have bb2 : w7.cell? ⟨_, 2, none⟩ = some (.slice none 0 0) := BB.cell 2; have bf2 : w7.frozen? ⟨_, 2, none⟩ = false := BB.frozen 2; have bb3 : w7.cell? ⟨_, 3, none⟩ = some (.int .i64 0) := BB.cell 3; have bf3 : w7.frozen? ⟨_, 3, none⟩ = false := BB.frozen 3; have bb4 : w7.cell? ⟨_, 4, none⟩ = some (.slice none 0 0) := BB.cell 4; have bf4 : w7.frozen? ⟨_, 4, none⟩ = false := BB.frozen 4; have bb5 : w7.cell? ⟨_, 5, none⟩ = some (.int .i64 0) := BB.cell 5; have bf5 : w7.frozen? ⟨_, 5, none⟩ = false := BB.frozen 5) | skip)))
          · refine gen_the fun W9 h9 => ?_
            clear HS
            have B9 : Blk W9 w7.heap.size 33 #[.slice cA5 F.ch.length cc5, .slice aA5 F.asd.length ac5, .slice rA5 F.arr.length rc5, .int .i64 F.w.beg, .slice tA5 F.w.stalls.length tc5, .int .i64 (F.w.at_ + F.w.buf)] := by rewrite [h9]; exact Blk.new _ _ _
            have T9 : Ext w7 W9 := by rewrite [h9]; exact Ext.alloc _ _
            have Q1 := m1.ext T9
            have Q4 := m4.ext T9
            have E7 := Ext.trans X0.out (Ext.trans EX T9)
            clear h9
            go_wp2_with fail
            go_meet
            exact ⟨_, cA5, cc5, aA5, ac5, rA5, rc5, tA5, tc5, rfl, hide B9, hide Q1, hide Q4, hide (fun a ha => Nat.le_trans X0.out.size (m5' a ha)), hide E7⟩
          · refine gen_the fun W9 h9 => ?_
            clear HS
            have B9 : Blk W9 w6.heap.size 33 #[.slice cA5 F.ch.length cc5, .slice aA5 F.asd.length ac5, .slice rA5 F.arr.length rc5, .int .i64 F.w.beg, .slice tA5 F.w.stalls.length tc5, .int .i64 (F.w.at_ + F.w.buf)] := by rewrite [h9]; exact blk_setsQ BB
            have T9 : Tw w7 W9 w6.heap.size none := by rewrite [h9]; (repeat' (first | (with_reducible exact Tw.refl _ _ _) | (with_reducible refine Tw.trans ?_ (Tw.set_ _ _ _ _ _))))
            have hne : ∀ a, (cA5 = some a ∨ aA5 = some a ∨ rA5 = some a ∨ tA5 = some a) → a.block ≠ w6.heap.size := fun a ha => by have k1 := m5 a ha; have k2 := b7.lt; have k3 := b5'.lt; (try simp only [World.size_alloc] at k1); omega
            have Q1 := m1.tw T9 (fun a ha => ⟨hne a (.inl ha), by simp⟩)
            have Q4 := m4.tw T9 (fun a ha => ⟨hne a (.inr (.inr (.inr ha))), by simp⟩)
            have hg0 : W0.heap.size ≤ w6.heap.size := by have k3 := b5'.lt; have k4 := BB.lt; exact hsz
            have E7 := Ext.trans X0.out (Below.trans EX (T9.below EX.size hg0 (fun b hb => by cases hb)))
            clear h9
            go_wp2_with fail
            go_meet
            exact ⟨_, cA5, cc5, aA5, ac5, rA5, rc5, tA5, tc5, rfl, hide B9, hide Q1, hide Q4, hide (fun a ha => Nat.le_trans X0.out.size (m5' a ha)), hide E7⟩
          · refine gen_the fun W9 h9 => ?_
            clear HS
            have B9 : Blk W9 w5.heap.size 33 #[.slice cA5 F.ch.length cc5, .slice aA5 F.asd.length ac5, .slice rA5 F.arr.length rc5, .int .i64 F.w.beg, .slice tA5 F.w.stalls.length tc5, .int .i64 (F.w.at_ + F.w.buf)] := by rewrite [h9]; exact blk_setsQ BB
            have T9 : Tw w7 W9 w5.heap.size none := by rewrite [h9]; (repeat' (first | (with_reducible exact Tw.refl _ _ _) | (with_reducible refine Tw.trans ?_ (Tw.set_ _ _ _ _ _))))
            have hne : ∀ a, (cA5 = some a ∨ aA5 = some a ∨ rA5 = some a ∨ tA5 = some a) → a.block ≠ w5.heap.size := fun a ha => by have k1 := m5 a ha; have k2 := b7.lt; have k3 := b5'.lt; (try simp only [World.size_alloc] at k1); omega
            have Q1 := m1.tw T9 (fun a ha => ⟨hne a (.inl ha), by simp⟩)
            have Q4 := m4.tw T9 (fun a ha => ⟨hne a (.inr (.inr (.inr ha))), by simp⟩)
            have hg0 : W0.heap.size ≤ w5.heap.size := by have k3 := b5'.lt; have k4 := BB.lt; exact hsz5
            have E7 := Ext.trans X0.out (Below.trans EX (T9.below EX.size hg0 (fun b hb => by cases hb)))
            clear h9
            go_wp2_with fail
            go_meet
            exact ⟨_, cA5, cc5, aA5, ac5, rA5, rc5, tA5, tc5, rfl, hide B9, hide Q1, hide Q4, hide (fun a ha => Nat.le_trans X0.out.size (m5' a ha)), hide E7⟩
          · refine gen_the fun W9 h9 => ?_
            clear HS
            have B9 : Blk W9 W0.heap.size 33 #[.slice cA5 F.ch.length cc5, .slice aA5 F.asd.length ac5, .slice rA5 F.arr.length rc5, .int .i64 F.w.beg, .slice tA5 F.w.stalls.length tc5, .int .i64 (F.w.at_ + F.w.buf)] := by rewrite [h9]; exact blk_setsQ BB
            have T9 : Tw w7 W9 W0.heap.size none := by rewrite [h9]; (repeat' (first | (with_reducible exact Tw.refl _ _ _) | (with_reducible refine Tw.trans ?_ (Tw.set_ _ _ _ _ _))))
            have hne : ∀ a, (cA5 = some a ∨ aA5 = some a ∨ rA5 = some a ∨ tA5 = some a) → a.block ≠ W0.heap.size := fun a ha => by have k1 := m5 a ha; have k2 := b7.lt; have k3 := b5'.lt; (try simp only [World.size_alloc] at k1); omega
            have Q1 := m1.tw T9 (fun a ha => ⟨hne a (.inl ha), by simp⟩)
            have Q4 := m4.tw T9 (fun a ha => ⟨hne a (.inr (.inr (.inr ha))), by simp⟩)
            have hg0 : W0.heap.size ≤ W0.heap.size := by have k3 := b5'.lt; have k4 := BB.lt; exact Nat.le_refl _
            have E7 := Ext.trans X0.out (Below.trans EX (T9.below EX.size hg0 (fun b hb => by cases hb)))
            clear h9
            go_wp2_with fail
            go_meet
            exact ⟨_, cA5, cc5, aA5, ac5, rA5, rc5, tA5, tc5, rfl, hide B9, hide Q1, hide Q4, hide (fun a ha => Nat.le_trans X0.out.size (m5' a ha)), hide E7⟩
        case rest =>
          obtain ⟨g17, cA5, cc5, aA5, ac5, rA5, rc5, tA5, tc5, rfl, BS, HA1, HA4, HM5, HX1⟩ := hcut
          have HA1l : Hid (At wc 1 e64 cA5 ln cc5 l) := hide (by have := HA1.out; rw [HCH.out, HLL.out] at this; exact this)
          have B0 := hide (B0.out.ext HX1.out)
          have B2 := hide (B2.out.ext HX1.out)
          have r0 : wc.cell? ⟨w.heap.size, 0, none⟩ = some (.slice lA ln lc) := B0.out.cell 0
          have r1 : wc.cell? ⟨w.heap.size, 1, none⟩ = some (.slice sA sn sc) := B0.out.cell 1
          have r2 : wc.cell? ⟨w.heap.size, 2, none⟩ = some (.slice qA qn qc) := B0.out.cell 2
          have m0 := B2.out.cell 0
          have m1 := B2.out.cell 1
          have m2 := B2.out.cell 2
          have s0' : wc.cell? ⟨g17, 0, none⟩ = some (.slice cA5 ln cc5) := by have := BS.out.cell 0; rw [HCH.out, HLL.out] at this; exact this
          have s1' : wc.cell? ⟨g17, 1, none⟩ = some (.slice aA5 F.asd.length ac5) := BS.out.cell 1
          have s2' : wc.cell? ⟨g17, 2, none⟩ = some (.slice rA5 F.arr.length rc5) := BS.out.cell 2
          have s3' : wc.cell? ⟨g17, 3, none⟩ = some (.int .i64 F.w.beg) := BS.out.cell 3
          have s4' : wc.cell? ⟨g17, 4, none⟩ = some (.slice tA5 F.w.stalls.length tc5) := BS.out.cell 4
          have s5' : wc.cell? ⟨g17, 5, none⟩ = some (.int .i64 (F.w.at_ + F.w.buf)) := BS.out.cell 5
          have HSC2 := hide (HSC.out wc HX1.out (aA := aA5) (an := F.asd.length) (ac := ac5) (rA := rA5) (rn := F.arr.length) (rc := rc5) (en := F.w.at_ + F.w.buf) HA1l.out HA4.out)
          rw [← HVB.out] at HSC2
          clear HSC HFO HA1 HA4 HVB
          generalize hsv : vb l = sv at *
          have HSV := hide hsv
          clear hsv
          go_wp2_with fail
          refine HSC2.out.mono ?_
          rintro e w8 ⟨rfl, e8⟩
          have X8 := hide (Ext.trans HX1.out e8)
          have HA8 := hide (HA1l.out.ext e8)
          have s0' : w8.cell? ⟨g17, 0, none⟩ = some (.slice cA5 ln cc5) := e8.cell s0'
          have r1 : w8.cell? ⟨w.heap.size, 1, none⟩ = some (.slice sA sn sc) := e8.cell r1
          have HNX2 := hide (HNX.out w8 (HOL.out.ext X8.out))
          clear e8 HSC2 HNX r0 r2 m0 m1 m2 s1' s2' s3' s4' s5' HA1l B0 B2 BS HX1
          obtain ⟨ac0, hac0, _⟩ : ∃ a, cA5 = some a ∧ True := by obtain ⟨b5, o5, hb5, _⟩ := HA8.out.addr (by omega); exact ⟨_, hb5, trivial⟩
          subst hac0
          have hab := HM5.out ac0 rfl
          have hab2 : G < wr.heap.size := by have := HOL.out.lt G rfl; omega
          have hab3 : ac0.block < w8.heap.size := at_lt HA8.out (by omega)
          have qnil : ∀ W : World, (binOp .eql 22 (.slice none 0 0) (.slice none 0 0)).run Try.prog W = .ok (.bool true) W := fun W => Lib.run_eql_slice_nil W 22 3 none 0 0 0 0 Try.underlying22
          have qsome : ∀ (a : Addr) (n c : Nat) (W : World), (binOp .eql 22 (.slice (some a) n c) (.slice none 0 0)).run Try.prog W = .ok (.bool false) W := fun a n c W => Lib.run_eql_slice_nil W 22 3 (some a) n c 0 0 Try.underlying22
          cases b with
          | none =>
            have hrb := HBB.out.1 rfl
            subst hrb
            go_wp2_with fail
            refine HNX2.out.mono ?_
            rintro e w9 ⟨rfl, n2, n3⟩
            have hN := HI.out.next (W9 := w9) (rb' := .slice (some ac0) ln cc5) (t' := sv) (by omega) n2 (fun _ => ⟨HSV.out.symm, ac0, cc5, rfl, HA8.out.tw n3 (fun a ha => by injection ha with ha; subst ha; exact ⟨by omega, by simp⟩), by omega, Nat.lt_of_lt_of_le hab3 n3.size⟩) (fun hc => absurd (by rw [HSV.out]; first | exact .inl rfl | exact .inr hlt) hc)
            go_wp2_with fail
            exact ⟨⟨_, _, _, _, rfl, rfl, hide hN.1, hide (HTW.out.trans ((Tw.of_ext X8.out G none).trans n3))⟩, hN.2⟩
          | some xb =>
            obtain ⟨ab, cb, hrb, _⟩ := HBB.out.2 xb rfl
            subst hrb
            by_cases hlt : t < sv
            · skip
              have i5 : decide (t < sv) = true := by simp; omega
              go_wp2_with fail
              refine HNX2.out.mono ?_
              rintro e w9 ⟨rfl, n2, n3⟩
              have hN := HI.out.next (W9 := w9) (rb' := .slice (some ac0) ln cc5) (t' := sv) (by omega) n2 (fun _ => ⟨HSV.out.symm, ac0, cc5, rfl, HA8.out.tw n3 (fun a ha => by injection ha with ha; subst ha; exact ⟨by omega, by simp⟩), by omega, Nat.lt_of_lt_of_le hab3 n3.size⟩) (fun hc => absurd (by rw [HSV.out]; exact .inr hlt) hc)
              go_wp2_with fail
              exact ⟨⟨_, _, _, _, rfl, rfl, hide hN.1, hide (HTW.out.trans ((Tw.of_ext X8.out G none).trans n3))⟩, hN.2⟩
            · skip
              have i5 : decide (t < sv) = false := by simp; omega
              go_wp2_with fail
              refine HNX2.out.mono ?_
              rintro e w9 ⟨rfl, n2, n3⟩
              have hN := HI.out.next (W9 := w9) (t' := t) (by omega) n2 (fun hc => absurd hc (by rw [HSV.out]; simp; omega)) (fun _ => ⟨rfl, rfl, fun a c x k1 k2 k3 => ⟨(k1.ext X8.out).tw n3 (fun a2 ha => by injection ha with ha; subst ha; exact ⟨k2, by simp⟩), Nat.lt_of_lt_of_le k3 (Nat.le_trans X8.out.size n3.size)⟩⟩)
              go_wp2_with fail
              exact ⟨⟨_, _, _, _, rfl, rfl, hide hN.1, hide (HTW.out.trans ((Tw.of_ext X8.out G none).trans n3))⟩, hN.2⟩
end
end Go.Proofs.Ytajadgpkmommmaa
namespace Go.Proofs.Ytajadgpkmommmaa
theorem nxS_none {base : Int} (hb : 0 < base) : ∀ (i : Nat) (l : List Int), i ≤ l.length → digs base l → (nxS base i l).2 = false → ∀ j, j < i → l.getD j 0 = base - 1
  | 0, _, _, _, _, j, hj => absurd hj (Nat.not_lt_zero j)
  | i + 1, l, hi, hd, h, j, hj => by
    rw [nxS_succ] at h
    have hdi := hd i (by omega)
    by_cases c : l.getD i 0 + 1 < base
    · rw [if_pos c] at h; cases h
    rw [if_neg c] at h
    by_cases hji : j = i
    · subst hji; omega
    have ih := nxS_none hb i (l.set i 0) (by rw [List.length_set]; omega) (hd.set ⟨Int.le_refl _, hb⟩) h j (by omega)
    rw [getD_set (by omega), if_neg (fun e => hji e.symm)] at ih
    exact ih
theorem valL_max {base : Nat} (hb : 0 < base) : ∀ l : List Int, (∀ j, j < l.length → l.getD j 0 = base - 1) → valL base l + 1 = base ^ l.length
  | [], _ => by simp [valL]
  | x :: r, h => by
    have ih := valL_max hb r (fun j hj => by have := h (j + 1) (by simp; omega); simpa using this)
    have h0 := h 0 (by simp)
    simp only [List.getD_cons_zero] at h0
    simp only [valL, List.length_cons, Nat.pow_succ]
    have hx : x.toNat = base - 1 := by omega
    rw [hx]
    have : (base - 1) * base ^ r.length + base ^ r.length = base ^ r.length * base := by
      rw [← Nat.succ_mul, show (base - 1).succ = base by omega, Nat.mul_comm]
    omega
theorem valL_inj {base : Nat} (hb : 0 < base) : ∀ (l k : List Int), l.length = k.length → digs base l → digs base k → valL base l = valL base k → l = k
  | [], [], _, _, _, _ => rfl
  | [], _ :: _, h, _, _, _ => by simp at h
  | _ :: _, [], h, _, _, _ => by simp at h
  | x :: r, y :: s, hl, hd, hk, h => by
    have hd' : digs base r := fun i hi => by have := hd (i + 1) (by simp; omega); simpa using this
    have hk' : digs base s := fun i hi => by have := hk (i + 1) (by simp; omega); simpa using this
    have hx := hd 0 (by simp)
    have hy := hk 0 (by simp)
    simp only [List.getD_cons_zero] at hx hy
    have hrs : r.length = s.length := by simpa using hl
    simp only [valL, hrs] at h
    have b1 := valL_lt hb r hd'
    have b2 := valL_lt hb s hk'
    rw [hrs] at b1
    have hp : 0 < base ^ s.length := Nat.lt_of_le_of_lt (Nat.zero_le _) b2
    have e1 : x.toNat = (x.toNat * base ^ s.length + valL base r) / base ^ s.length := by
      rw [Nat.mul_comm, Nat.mul_add_div hp, Nat.div_eq_of_lt b1, Nat.add_zero]
    have e2 : y.toNat = (y.toNat * base ^ s.length + valL base s) / base ^ s.length := by
      rw [Nat.mul_comm, Nat.mul_add_div hp, Nat.div_eq_of_lt b2, Nat.add_zero]
    have e3 : x.toNat = y.toNat := by rw [e1, e2, h]
    have e4 : valL base r = valL base s := by rw [e3] at h; omega
    rw [valL_inj hb r s hrs hd' hk' e4, show x = y by omega]
/-- The greatest of all. -/
theorem bstP_top {v : List Int → Int} {base n : Nat} (hb : 0 < base) : ∀ (f : Nat) (l : List Int) (b : Option (List Int)) (t : Int), l.length = n → digs base l → base ^ n ≤ valL base l + f → 0 < f →
    (∀ m, b = some m → v m = t ∧ m.length = n ∧ digs base m) →
    ((bstP v base f l b t).1.length = n ∧ digs base (bstP v base f l b t).1 ∧ v (bstP v base f l b t).1 = (bstP v base f l b t).2) ∧ (b ≠ none → t ≤ (bstP v base f l b t).2) ∧
    (∀ k, k.length = n → digs base k → valL base l ≤ valL base k → v k ≤ (bstP v base f l b t).2)
  | 0, _, _, _, _, _, _, h0, _ => absurd h0 (Nat.lt_irrefl 0)
  | f + 1, l, b, t, hl, hd, hf, _, hm => by
    obtain ⟨b', t', hb', ht', hsome, hge⟩ : ∃ b' t', b' = (if b = none ∨ t < v l then some l else b) ∧ t' = (if b = none ∨ t < v l then v l else t) ∧ (∃ m, b' = some m ∧ v m = t' ∧ m.length = n ∧ digs base m) ∧ (v l ≤ t' ∧ (b ≠ none → t ≤ t')) := by
      refine ⟨_, _, rfl, rfl, ?_⟩
      by_cases c : b = none ∨ t < v l
      · rw [if_pos c, if_pos c]
        refine ⟨⟨l, rfl, rfl, hl, hd⟩, Int.le_refl _, fun hn => ?_⟩
        rcases c with c | c
        · exact absurd c hn
        · omega
      · rw [if_neg c, if_neg c]
        have hn : b ≠ none := fun e => c (Or.inl e)
        obtain ⟨m, hm0⟩ := Option.ne_none_iff_exists'.1 hn
        exact ⟨⟨m, hm0, hm m hm0⟩, by have : ¬ t < v l := fun e => c (Or.inr e); omega, fun _ => Int.le_refl _⟩
    have e : bstP v base (f + 1) l b t = if (nxS base l.length l).2 = true then bstP v base f (nxS base l.length l).1 b' t' else (b'.getD [], t') := by rw [hb', ht']; rfl
    rw [e]
    obtain ⟨m, hm1, hm2, hm3, hm4⟩ := hsome
    by_cases hx : (nxS base l.length l).2 = true
    · rw [if_pos hx]
      have hv := nxS_val hb l.length l (Nat.le_refl _) hd hx
      rw [Nat.sub_self, Nat.pow_zero] at hv
      have hd2 := nxS_digs (by omega) l.length l (Nat.le_refl _) hd
      have hl2 := nxS_len base l.length l
      have hlt := valL_lt hb _ hd2
      rw [hl2] at hlt
      have hpw : base ^ l.length = base ^ n := by rw [hl]
      obtain ⟨h1, h2, h3⟩ := bstP_top hb f (nxS base l.length l).1 b' t' (by rw [hl2, hl]) hd2 (by omega) (by omega) (fun m' h => by rw [hm1] at h; cases h; exact ⟨hm2, hm3, hm4⟩)
      have h2' := h2 (by rw [hm1]; simp)
      refine ⟨h1, fun hn => by have := hge.2 hn; omega, fun k hk hk2 hkv => ?_⟩
      by_cases heq : valL base l = valL base k
      · rw [← valL_inj hb l k (by omega) hd hk2 heq]; omega
      · exact h3 k hk hk2 (by omega)
    · rw [if_neg hx, hm1]
      refine ⟨⟨hm3, hm4, hm2⟩, hge.2, fun k hk hk2 hkv => ?_⟩
      have hmx := valL_max hb l (nxS_none (by omega) l.length l (Nat.le_refl _) hd (by simpa using hx))
      have hlt := valL_lt hb k hk2
      rw [hk] at hlt
      rw [hl] at hmx
      rw [← valL_inj hb l k (by omega) hd hk2 (by omega)]
      exact hge.1
end Go.Proofs.Ytajadgpkmommmaa
namespace Go.Proofs.Ytajadgpkmommmaa
open Go.RowKit
section
variable {lA : Option Addr} {ln lc : Nat} {sA : Option Addr} {sn sc : Nat} {qA : Option Addr} {qn qc : Nat} {L : List Int} {S : List (List Int)} {Q : List Int} {d0 s0 r0 f0 i0 k0 l0 t0 lo0 hi0 a0 x0 y0 z0 wc ws ww : Int} {w : World} {T : List (Int × Int)} {C : List Int}
theorem digs_okC {m : Nat} (h0 : 0 < m) (h : digs m C) : okC m C := fun i => by
  by_cases hi : i < C.length
  · exact h i hi
  · rw [List.getD_eq_getElem?_getD, List.getElem?_eq_none (by omega)]
    simp; exact h0
theorem okC_digs {m : Nat} (h : okC m C) : digs m C := fun i _ => h i
theorem withF_zero (h : withF L S Q T C d0 s0 r0 f0 i0 k0 l0 t0 lo0 hi0 a0 x0 y0 z0 = 0) : runF L S Q T d0 s0 r0 f0 i0 k0 l0 t0 lo0 hi0 a0 x0 y0 z0 = 0 ∧ C.length = L.length ∧ okC S.length C := by
  unfold withF at h
  have hr : runF L S Q T d0 s0 r0 f0 i0 k0 l0 t0 lo0 hi0 a0 x0 y0 z0 = 0 := Classical.byContradiction fun c => by rw [if_pos c] at h; exact c h
  rw [if_neg (by omega)] at h
  have h0 := (filmF_ok (runF_zero hr).1).s0
  unfold chsF at h
  have h1 : (C.length : Int) = L.length := Classical.byContradiction fun c => by rw [if_pos c] at h; omega
  rw [if_neg (by omega)] at h
  have h2 : rngB 0 ((S.length : Int) - 1) C = false := by
    cases hc : rngB 0 ((S.length : Int) - 1) C with
    | false => rfl
    | true => rw [hc, if_pos rfl] at h; omega
  refine ⟨hr, by omega, digs_okC h0 fun i hi => ?_⟩
  have := rngB_false h2 i hi
  omega
theorem withF_of (hr : runF L S Q T d0 s0 r0 f0 i0 k0 l0 t0 lo0 hi0 a0 x0 y0 z0 = 0) (hC : C.length = L.length) (hk : okC S.length C) : withF L S Q T C d0 s0 r0 f0 i0 k0 l0 t0 lo0 hi0 a0 x0 y0 z0 = 0 := by
  unfold withF
  rw [if_neg (by omega)]
  exact chs_ok hC hk
theorem sesOk_of (hr : runF L S Q T d0 s0 r0 f0 i0 k0 l0 t0 lo0 hi0 a0 x0 y0 z0 = 0) (hC : C.length = L.length) (hk : okC S.length C) : SesOk L S.length C (folF f0 s0 r0 L S (gvF C) (trF T d0) L.length).asd (folF f0 s0 r0 L S (gvF C) (trF T d0) L.length).arr (folF f0 s0 r0 L S (gvF C) (trF T d0) L.length).w.beg (folF f0 s0 r0 L S (gvF C) (trF T d0) L.length).w.stalls ((folF f0 s0 r0 L S (gvF C) (trF T d0) L.length).w.at_ + (folF f0 s0 r0 L S (gvF C) (trF T d0) L.length).w.buf) := by
  obtain ⟨hF, hT, hd, _⟩ := runF_zero hr
  have hR := run_traceC (f0 := f0) (s0 := s0) (r0 := r0) hF hT hd hk
  have hS := ses_ok hR (filmF_ok hF).l0 (by omega)
  rw [fol_chC hC] at hS
  exact hS
theorem with_form5 {e : Ending} {w' : World} (hw : withF L S Q T C d0 s0 r0 f0 i0 k0 l0 t0 lo0 hi0 a0 x0 y0 z0 = 0) (h : WithGives w (withF L S Q T C d0 s0 r0 f0 i0 k0 l0 t0 lo0 hi0 a0 x0 y0 z0) L.length (folF f0 s0 r0 L S (gvF C) (trF T d0) L.length) e w') :
    ∃ (cA : Option Addr) (cc : Nat) (aA : Option Addr) (ac : Nat) (rA : Option Addr) (rc : Nat) (tA : Option Addr) (tc : Nat),
      e = .returned (.tuple #[.agg #[.slice cA L.length cc, .slice aA L.length ac, .slice rA L.length rc, .int .i64 (folF f0 s0 r0 L S (gvF C) (trF T d0) L.length).w.beg, .slice tA (folF f0 s0 r0 L S (gvF C) (trF T d0) L.length).w.stalls.length tc, .int .i64 ((folF f0 s0 r0 L S (gvF C) (trF T d0) L.length).w.at_ + (folF f0 s0 r0 L S (gvF C) (trF T d0) L.length).w.buf)], .int .i64 0]) ∧ (C.length = L.length ∧ okC S.length C) ∧
      (At w' 1 e64 cA L.length cc C ∧ At w' 1 e64 aA L.length ac (folF f0 s0 r0 L S (gvF C) (trF T d0) L.length).asd ∧ At w' 1 e64 rA L.length rc (folF f0 s0 r0 L S (gvF C) (trF T d0) L.length).arr ∧ At w' 2 e2 tA (folF f0 s0 r0 L S (gvF C) (trF T d0) L.length).w.stalls.length tc (folF f0 s0 r0 L S (gvF C) (trF T d0) L.length).w.stalls ∧ (∀ a, (cA = some a ∨ aA = some a ∨ rA = some a ∨ tA = some a) → w.heap.size ≤ a.block)) ∧ Ext w w' ∧
      SesOk L S.length C (folF f0 s0 r0 L S (gvF C) (trF T d0) L.length).asd (folF f0 s0 r0 L S (gvF C) (trF T d0) L.length).arr (folF f0 s0 r0 L S (gvF C) (trF T d0) L.length).w.beg (folF f0 s0 r0 L S (gvF C) (trF T d0) L.length).w.stalls ((folF f0 s0 r0 L S (gvF C) (trF T d0) L.length).w.at_ + (folF f0 s0 r0 L S (gvF C) (trF T d0) L.length).w.buf) := by
  obtain ⟨hx, _, hg⟩ := h
  obtain ⟨hr, hC, hk⟩ := withF_zero hw
  obtain ⟨v, rfl, ⟨cA, cc, aA, ac, rA, rc, tA, tc, rfl, m1, m2, m3, m4, m5⟩, l1, l2, l3, _⟩ := hg hw
  rw [l1] at m1
  rw [l2] at m2
  rw [l3] at m3
  rw [fol_chC hC] at m1
  exact ⟨cA, cc, aA, ac, rA, rc, tA, tc, by rw [l1, l2, l3], ⟨hC, hk⟩, ⟨m1, m2, m3, m4, m5⟩, hx, sesOk_of hr hC hk⟩
theorem run_form5 {e : Ending} {w' : World} (hu : runF L S Q T d0 s0 r0 f0 i0 k0 l0 t0 lo0 hi0 a0 x0 y0 z0 = 0) (h : RunGives w (runF L S Q T d0 s0 r0 f0 i0 k0 l0 t0 lo0 hi0 a0 x0 y0 z0) L S T d0 s0 r0 f0 i0 k0 l0 t0 lo0 hi0 a0 x0 y0 z0 e w') :
    ∃ C : List Int, ∃ (cA : Option Addr) (cc : Nat) (aA : Option Addr) (ac : Nat) (rA : Option Addr) (rc : Nat) (tA : Option Addr) (tc : Nat),
      e = .returned (.tuple #[.agg #[.slice cA L.length cc, .slice aA L.length ac, .slice rA L.length rc, .int .i64 (folF f0 s0 r0 L S (gvF C) (trF T d0) L.length).w.beg, .slice tA (folF f0 s0 r0 L S (gvF C) (trF T d0) L.length).w.stalls.length tc, .int .i64 ((folF f0 s0 r0 L S (gvF C) (trF T d0) L.length).w.at_ + (folF f0 s0 r0 L S (gvF C) (trF T d0) L.length).w.buf)], .int .i64 0]) ∧ (C.length = L.length ∧ okC S.length C) ∧
      (At w' 1 e64 cA L.length cc C ∧ At w' 1 e64 aA L.length ac (folF f0 s0 r0 L S (gvF C) (trF T d0) L.length).asd ∧ At w' 1 e64 rA L.length rc (folF f0 s0 r0 L S (gvF C) (trF T d0) L.length).arr ∧ At w' 2 e2 tA (folF f0 s0 r0 L S (gvF C) (trF T d0) L.length).w.stalls.length tc (folF f0 s0 r0 L S (gvF C) (trF T d0) L.length).w.stalls ∧ (∀ a, (cA = some a ∨ aA = some a ∨ rA = some a ∨ tA = some a) → w.heap.size ≤ a.block)) ∧ Ext w w' ∧
      SesOk L S.length C (folF f0 s0 r0 L S (gvF C) (trF T d0) L.length).asd (folF f0 s0 r0 L S (gvF C) (trF T d0) L.length).arr (folF f0 s0 r0 L S (gvF C) (trF T d0) L.length).w.beg (folF f0 s0 r0 L S (gvF C) (trF T d0) L.length).w.stalls ((folF f0 s0 r0 L S (gvF C) (trF T d0) L.length).w.at_ + (folF f0 s0 r0 L S (gvF C) (trF T d0) L.length).w.buf) := by
  obtain ⟨hx, _, hg⟩ := h
  obtain ⟨C, v, ⟨hC1, hC2, hC3⟩, rfl, ⟨cA, cc, aA, ac, rA, rc, tA, tc, rfl, m1, m2, m3, m4, m5⟩, l1, l2, l3, _⟩ := hg hu
  rw [l1] at m1
  rw [l2] at m2
  rw [l3] at m3
  rw [fol_chC hC1] at m1
  exact ⟨C, cA, cc, aA, ac, rA, rc, tA, tc, by rw [l1, l2, l3], ⟨hC1, hC2⟩, ⟨m1, m2, m3, m4, m5⟩, hx, sesOk_of hu hC1 hC2⟩
theorem bstF_zero (h : bstF L S Q T d0 s0 r0 f0 i0 k0 l0 t0 lo0 hi0 a0 x0 y0 z0 wc ws ww = 0) : runF L S Q T d0 s0 r0 f0 i0 k0 l0 t0 lo0 hi0 a0 x0 y0 z0 = 0 ∧ wtsF wc ws ww = 0 := by
  unfold bstF at h
  have h1 : runF L S Q T d0 s0 r0 f0 i0 k0 l0 t0 lo0 hi0 a0 x0 y0 z0 = 0 := Classical.byContradiction fun c => by rw [if_pos c] at h; exact c h
  rw [if_neg (by omega)] at h
  exact ⟨h1, Classical.byContradiction fun c => by rw [if_pos c] at h; exact c h⟩
theorem best_top (h : bstF L S Q T d0 s0 r0 f0 i0 k0 l0 t0 lo0 hi0 a0 x0 y0 z0 wc ws ww = 0) : (bstV L S Q T d0 s0 r0 f0 i0 k0 l0 t0 lo0 hi0 a0 x0 y0 z0 wc ws ww).1.length = L.length ∧ okC S.length (bstV L S Q T d0 s0 r0 f0 i0 k0 l0 t0 lo0 hi0 a0 x0 y0 z0 wc ws ww).1 ∧ vbF L S Q T d0 s0 r0 f0 wc ws ww (bstV L S Q T d0 s0 r0 f0 i0 k0 l0 t0 lo0 hi0 a0 x0 y0 z0 wc ws ww).1 = (bstV L S Q T d0 s0 r0 f0 i0 k0 l0 t0 lo0 hi0 a0 x0 y0 z0 wc ws ww).2 ∧
    ∀ C, C.length = L.length → okC S.length C → vbF L S Q T d0 s0 r0 f0 wc ws ww C ≤ (bstV L S Q T d0 s0 r0 f0 i0 k0 l0 t0 lo0 hi0 a0 x0 y0 z0 wc ws ww).2 := by
  have h0 := (filmF_ok (runF_zero (bstF_zero h).1).1).s0
  unfold bstV
  rw [if_pos h]
  obtain ⟨⟨h1, h2, h3⟩, _, h4⟩ := bstP_top (v := vbF L S Q T d0 s0 r0 f0 wc ws ww) (base := S.length) (n := L.length) h0 (S.length ^ L.length) (List.replicate L.length 0) none 0 (by simp) (digs_zero h0) (by omega) (Nat.pow_pos h0) (fun m hm => by cases hm)
  exact ⟨h1, digs_okC h0 h2, h3, fun C hC hk => h4 C hC (okC_digs hk) (by rw [val_zero]; omega)⟩
theorem bstV_err (h : bstF L S Q T d0 s0 r0 f0 i0 k0 l0 t0 lo0 hi0 a0 x0 y0 z0 wc ws ww ≠ 0) : (bstV L S Q T d0 s0 r0 f0 i0 k0 l0 t0 lo0 hi0 a0 x0 y0 z0 wc ws ww).1 = [] := by
  unfold bstV
  rw [if_neg h]
end
end Go.Proofs.Ytajadgpkmommmaa
