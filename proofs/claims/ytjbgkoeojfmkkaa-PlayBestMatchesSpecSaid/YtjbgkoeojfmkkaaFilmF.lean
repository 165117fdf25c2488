/- Walks: checkSizes and CheckFilm of the reference. Conditions as stated. -/
import Derived.Test.YtjbgkoeojfmkkaaFunc
import Derived.Test.YtjbgkoeojfmkkaaFilmS
namespace Go.Proofs.Ytjbgkoeojfmkkaa
open Go.RowKit

theorem sumI_all {l : List Int} : ∀ {n : Nat}, l.length = n → sumI l n = l.sum := fun h => by unfold sumI; rw [← h, List.take_length]
theorem sum_bd {l : List Int} (hn : l.length ≤ 200) (h : rngB 1 1000000000 l = false) : 0 ≤ l.sum ∧ l.sum ≤ 200000000000 := by
  have := sumI_bound (l := l) (fun i hi => by have := rngB_false h i hi; omega) l.length (Nat.le_refl _)
  rw [sumI_all rfl] at this
  omega
theorem pos_bd {l : List Int} (h : rngB 1 1000000000 l = false) : ∀ i, i < l.length → 0 ≤ l.getD i 0 ∧ l.getD i 0 ≤ 1000000000 := fun i hi => by have := rngB_false h i hi; omega
section
variable {lA : Option Addr} {ln lc : Nat} {sA : Option Addr} {sn sc : Nat} {qA : Option Addr} {qn qc : Nat} {L : List Int} {S : List (List Int)} {Q : List Int} {w : World}
@[reducible] def shO (lA : Option Addr) (ln lc : Nat) (sA : Option Addr) (sn sc : Nat) (qA : Option Addr) (qn qc : Nat) : Obj := .cells #[.slice lA ln lc, .slice sA sn sc, .slice qA qn qc] 25
/-- The cells of a film that lies in memory. -/
theorem sh_cells (w : World) (lA : Option Addr) (ln lc : Nat) (sA : Option Addr) (sn sc : Nat) (qA : Option Addr) (qn qc : Nat) {W : World} (hW : Ext (w.alloc (.cells #[.slice lA ln lc, .slice sA sn sc, .slice qA qn qc] 25)) W) :
    W.cell? ⟨w.heap.size, 0, none⟩ = some (.slice lA ln lc) ∧ W.cell? ⟨w.heap.size, 1, none⟩ = some (.slice sA sn sc) ∧ W.cell? ⟨w.heap.size, 2, none⟩ = some (.slice qA qn qc) := by
  have b := (Blk.new w 25 #[.slice lA ln lc, .slice sA sn sc, .slice qA qn qc]).ext hW
  exact ⟨b.cell 0, b.cell 1, b.cell 2⟩
set_option maxRecDepth 100000 in
set_option maxHeartbeats 8000000 in
theorem checkSizes_any (h : Shw w lA ln lc sA sn sc qA qn qc L S Q) (hln : ln ≤ 200) (hqn : qn = sn) {k : Nat} (hk : k < sn) (hp : 0 < k → szEl L S Q (k - 1) = 0) :
    Calls Try.prog 83 #[shV lA ln lc sA sn sc qA qn qc, .int .i64 k] w fun e w' => e = .returned (.int .i64 (szEl L S Q k)) ∧ Ext w w' := by
  have hl := h.longs.len
  have hs := h.sizes.len
  have hq := h.qual.len
  have hbq := h.qual.bound
  have hbs := h.sizes.bound
  obtain ⟨bs, os, rfl⟩ := h.sizes.addr (by omega)
  obtain ⟨bq, oq, rfl, _⟩ := h.qual.addr (by omega)
  obtain ⟨rA, rn, rc, rcell, rat⟩ := h.sizes.row hk
  have hrl := rat.len
  have hrb := rat.bound
  have qcell := h.qual.num (k := k) (by omega)
  have EA := Ext.alloc w (shO lA ln lc (some ⟨bs, os, none⟩) sn sc (some ⟨bq, oq, none⟩) qn qc)
  have HCL := hide (fun (W : World) hW => sh_cells w lA ln lc (some ⟨bs, os, none⟩) sn sc (some ⟨bq, oq, none⟩) qn qc (W := W) hW)
  have rcell1 := EA.cell rcell
  have i0 : (0 : Int) ≤ (k : Int) := by omega
  have i1 : (k : Int) < (sn : Int) := by omega
  have i2 : (k : Int) < (qn : Int) := by omega
  have HH := hide h
  have HR := hide rat
  have HQN := hide hqn
  have HEA := hide EA
  clear h rat EA hqn
  generalize hrow : S.getD k [] = r at *
  by_cases hA : rn = ln
  · have eA : ((rn : Int) != (ln : Int)) = false := by simp [hA]
    have HS0 : Hid (szEl L S Q k = if rngB 1 1000000000 r = true then 1 else if Q.getD k 0 < 0 ∨ 1000000 < Q.getD k 0 then 1
        else if 0 < k ∧ (Q.getD k 0 < Q.getD (k - 1) 0 ∨ r.sum < (S.getD (k - 1) []).sum) then 8 else 0) := hide (by unfold szEl; rw [hrow, if_neg (by omega)])
    have HRL := hide hrl
    have HL := hide hl
    have HA := hide hA
    have hrn : rn ≤ 200 := by omega
    have HP := hide hp
    clear hA hrow hl hs hq hrl hp
    go_enter Try.func83, Try.ntmps83
    go_wp2_with fail
    go_quiet (fail)
    go_wp2_with fail
    go_loopw [23] (fun ri wr => ∃ m : Nat, m ≤ rn ∧ ri = .int .i64 m ∧ Hid (∀ j, j < m → 1 ≤ r.getD j 0 ∧ r.getD j 0 ≤ 1000000000) ∧ Hid (Ext (w.alloc (shO lA ln lc (some ⟨bs, os, none⟩) sn sc (some ⟨bq, oq, none⟩) qn qc)) wr)) (fun ri _ => rn - (intOf ri).toNat)
    case atStart => exact ⟨0, by omega, rfl, hide (fun j hj => by omega), hide (by repeat' (first | (with_reducible exact Below.refl _ _) | (with_reducible assumption) | (with_reducible refine below_drewN ?_ _) | (with_reducible refine Below.drew ?_) | (with_reducible refine ext_alloc ?_ _) | (with_reducible refine Below.setCell ?_ ?_ _) | go_size))⟩
    case round =>
      obtain ⟨m, hm, rfl, HG, HX⟩ := hrel
      have HW := hide (Ext.trans HEA.out HX.out)
      by_cases hlt : m < rn
      · obtain ⟨b, off, rfl, _⟩ := HR.out.addr (by omega)
        have a1 := (HR.out.ext HW.out).num hlt
        have HB : Hid (r.getD m 0 < 1 ∨ 1000000000 < r.getD m 0 → rngB 1 1000000000 r = true) := hide (fun hb => rngB_true (by have := HRL.out; omega) hb)
        have HN : Hid (1 ≤ r.getD m 0 ∧ r.getD m 0 ≤ 1000000000 → ∀ j, j < m + 1 → 1 ≤ r.getD j 0 ∧ r.getD j 0 ≤ 1000000000) := hide (fun hb j hj => by
          rcases Nat.lt_succ_iff_lt_or_eq.1 hj with h | h
          · exact HG.out j h
          · rw [h]; exact hb)
        generalize r.getD m 0 = x at *
        by_cases hx : x < 1 ∨ 1000000000 < x
        · have HF : Hid (szEl L S Q k = 1) := hide (by rw [HS0.out, if_pos (HB.out hx)])
          clear rcell1 qcell
          go_wp2_with (first | ((go_at_call 41; with_reducible refine (within_yes ?_ _).mono ?_); (focus omega); rintro e w' ⟨rfl, rfl⟩) | ((go_at_call 41; with_reducible refine (within_no ?_ _).mono ?_); (focus omega); rintro e w' ⟨rfl, rfl⟩))
          go_ret
          exact ⟨ret_int HF.out.symm, HW.out⟩
        · have hx' : 1 ≤ x ∧ x ≤ 1000000000 := by omega
          have HG2 := hide (HN.out hx')
          clear hx rcell1 qcell
          go_wp2_with (first | ((go_at_call 41; with_reducible refine (within_yes ?_ _).mono ?_); (focus omega); rintro e w' ⟨rfl, rfl⟩) | ((go_at_call 41; with_reducible refine (within_no ?_ _).mono ?_); (focus omega); rintro e w' ⟨rfl, rfl⟩))
          go_roundw
          case rel => exact ⟨m + 1, by omega, by go_num, HG2, HX⟩
          case measure => simp [intOf]; omega
      · have hrz : rngB 1 1000000000 r = false := rngB_none (fun i hi => HG.out i (by have := HRL.out; omega))
        have HRZ := hide hrz
        have HS1 : Hid (szEl L S Q k = if Q.getD k 0 < 0 ∨ 1000000 < Q.getD k 0 then 1
            else if 0 < k ∧ (Q.getD k 0 < Q.getD (k - 1) 0 ∨ r.sum < (S.getD (k - 1) []).sum) then 8 else 0) := hide (by rw [HS0.out, if_neg (by rw [hrz]; simp)])
        obtain ⟨c0, c1, c2⟩ := HCL.out wr HX.out
        have qc0 := HW.out.cell qcell
        have rc0 := HW.out.cell rcell
        have HQP := hide (fun (h0 : 0 < k) => (HH.out.ext HW.out).qual.num (k := k - 1) (by have := HQN.out; omega))
        have HSP := hide (fun (h0 : 0 < k) => HH.out.sizes.row (k := k - 1) (by omega))
        clear rcell1 qcell rcell hrz
        generalize Q.getD k 0 = q0 at *
        by_cases hqb : q0 < 0 ∨ 1000000 < q0
        · have HF : Hid (szEl L S Q k = 1) := hide (by rw [HS1.out, if_pos hqb])
          go_wp2_with (first | ((go_at_call 41; with_reducible refine (within_yes ?_ _).mono ?_); (focus omega); rintro e w' ⟨rfl, rfl⟩) | ((go_at_call 41; with_reducible refine (within_no ?_ _).mono ?_); (focus omega); rintro e w' ⟨rfl, rfl⟩))
          go_ret
          exact ⟨ret_int HF.out.symm, HW.out⟩
        have hqb' : 0 ≤ q0 ∧ q0 ≤ 1000000 := by omega
        rcases Nat.eq_zero_or_pos k with hk0 | hk0
        · have HF : Hid (szEl L S Q k = 0) := hide (by rw [HS1.out, if_neg hqb, if_neg (by omega)])
          have g0 : decide ((0 : Int) < (k : Int)) = false := by simp; omega
          have g00 : decide (0 < k) = false := by simp; omega
          clear hqb hk0
          go_wp2_with (first | ((go_at_call 41; with_reducible refine (within_yes ?_ _).mono ?_); (focus omega); rintro e w' ⟨rfl, rfl⟩) | ((go_at_call 41; with_reducible refine (within_no ?_ _).mono ?_); (focus omega); rintro e w' ⟨rfl, rfl⟩))
          go_quiet (fail)
          go_wp2
          go_ret
          exact ⟨ret_int HF.out.symm, Ext.trans HW.out (by repeat' (first | (with_reducible exact Below.refl _ _) | (with_reducible assumption) | (with_reducible refine below_drewN ?_ _) | (with_reducible refine Below.drew ?_) | (with_reducible refine ext_alloc ?_ _) | (with_reducible refine Below.setCell ?_ ?_ _) | go_size))⟩
        have g0 : decide ((0 : Int) < (k : Int)) = true := by simp; omega
        have j2 : IntKind.i64.wrap ((k : Int) - 1) = (k : Int) - 1 := by rw [IntKind.wrap_i64]; omega
        have j3 : ((k : Int) - 1).toNat = k - 1 := by omega
        have j4 : 0 ≤ (k : Int) - 1 := by omega
        have j5 : (k : Int) - 1 < (sn : Int) := by omega
        have j6 : (k : Int) - 1 < (qn : Int) := by omega
        have j7 : 1 ≤ (k : Int) := by omega
        have qc1 := HQP.out hk0
        obtain ⟨pA, pn, pc, pcell, pat⟩ := HSP.out hk0
        have pc1 := HW.out.cell pcell
        have HSZ := hide (szEl_ok (HP.out hk0))
        generalize Q.getD (k - 1) 0 = q1 at *
        clear pcell
        by_cases hq2 : q0 < q1
        · have HF : Hid (szEl L S Q k = 8) := hide (by rw [HS1.out, if_neg hqb, if_pos ⟨hk0, .inl hq2⟩])
          have g1 : decide (q0 < q1) = true := by simpa using hq2
          clear hqb
          go_wp2_with (first | ((go_at_call 41; with_reducible refine (within_yes ?_ _).mono ?_); (focus omega); rintro e w' ⟨rfl, rfl⟩) | ((go_at_call 41; with_reducible refine (within_no ?_ _).mono ?_); (focus omega); rintro e w' ⟨rfl, rfl⟩))
          go_quiet (fail)
          go_wp2
          go_ret
          exact ⟨ret_int HF.out.symm, Ext.trans HW.out (by repeat' (first | (with_reducible exact Below.refl _ _) | (with_reducible assumption) | (with_reducible refine below_drewN ?_ _) | (with_reducible refine Below.drew ?_) | (with_reducible refine ext_alloc ?_ _) | (with_reducible refine Below.setCell ?_ ?_ _) | go_size))⟩
        have g1 : decide (q0 < q1) = false := by simpa using hq2
        have hpn : pn ≤ 200 := by have h1 := pat.len; have h2 := HSZ.out.1; have := HL.out; omega
        have HCA := hide (fun (n : Nat) => refSum_any (HR.out.ext (below_drewN HW.out n)) hrn (pos_bd HRZ.out))
        have HCB := hide (fun (n : Nat) => refSum_any (pat.ext (below_drewN HW.out n)) hpn (pos_bd HSZ.out.2.1))
        generalize r.sum = s1 at *
        generalize (S.getD (k - 1) []).sum = s2 at *
        clear pat
        by_cases hs : s1 < s2
        · have HF : Hid (szEl L S Q k = 8) := hide (by rw [HS1.out, if_neg hqb, if_pos ⟨hk0, .inr hs⟩])
          have g2 : decide (s1 < s2) = true := by simpa using hs
          clear hqb
          go_wp2_with (first | ((go_at_call 41; with_reducible refine (within_yes ?_ _).mono ?_); (focus omega); rintro e w' ⟨rfl, rfl⟩) | ((go_at_call 41; with_reducible refine (within_no ?_ _).mono ?_); (focus omega); rintro e w' ⟨rfl, rfl⟩))
          go_quiet ((go_at_call 32; (first | with_reducible exact quiet_left (HCA.out _) | with_reducible exact quiet_left (HCB.out _))))
          go_wp2
          go_ret
          exact ⟨ret_int HF.out.symm, Ext.trans HW.out (by repeat' (first | (with_reducible exact Below.refl _ _) | (with_reducible assumption) | (with_reducible refine below_drewN ?_ _) | (with_reducible refine Below.drew ?_) | (with_reducible refine ext_alloc ?_ _) | (with_reducible refine Below.setCell ?_ ?_ _) | go_size))⟩
        · have HF : Hid (szEl L S Q k = 0) := hide (by rw [HS1.out, if_neg hqb, if_neg (by omega)])
          have g2 : decide (s1 < s2) = false := by simpa using hs
          clear hqb
          go_wp2_with (first | ((go_at_call 41; with_reducible refine (within_yes ?_ _).mono ?_); (focus omega); rintro e w' ⟨rfl, rfl⟩) | ((go_at_call 41; with_reducible refine (within_no ?_ _).mono ?_); (focus omega); rintro e w' ⟨rfl, rfl⟩))
          go_quiet ((go_at_call 32; (first | with_reducible exact quiet_left (HCA.out _) | with_reducible exact quiet_left (HCB.out _))))
          go_wp2
          go_ret
          exact ⟨ret_int HF.out.symm, Ext.trans HW.out (by repeat' (first | (with_reducible exact Below.refl _ _) | (with_reducible assumption) | (with_reducible refine below_drewN ?_ _) | (with_reducible refine Below.drew ?_) | (with_reducible refine ext_alloc ?_ _) | (with_reducible refine Below.setCell ?_ ?_ _) | go_size))⟩
  · have eA : ((rn : Int) != (ln : Int)) = true := by simp; omega
    have HF : Hid (szEl L S Q k = 3) := hide (by unfold szEl; rw [hrow, if_pos (by omega)])
    clear hA hrow hl hs hq hrl hp
    go_enter Try.func83, Try.ntmps83
    go_wp2_with fail
    go_quiet (fail)
    go_wp2_with fail
    go_ret
    exact ⟨ret_int HF.out.symm, (by repeat' (first | (with_reducible exact Below.refl _ _) | (with_reducible assumption) | (with_reducible refine below_drewN ?_ _) | (with_reducible refine Below.drew ?_) | (with_reducible refine ext_alloc ?_ _) | (with_reducible refine Below.setCell ?_ ?_ _) | go_size))⟩
end
end Go.Proofs.Ytjbgkoeojfmkkaa
