/- Walks: Lease and Watching of the program. Conditions: strings are no longer than strings can be. -/
import Derived.Test.YtfpmjaeehhegcaaAnsN
import Derived.Test.YtfpmjaeehhegcaaWatR
namespace Go.Proofs.Ytfpmjaeehhegcaa
open Go.RowKit

theorem Fr.below {w w' : World} {o : Nat} {row : Option Nat} {C : Nat} (h : Fr w w' o row) (hC : C ≤ w.heap.size) (ho : C ≤ o) (hr : ∀ g, row = some g → C ≤ g) : Below C w w' :=
  ⟨h.os, h.tape, h.output, h.size, fun k hk => h.block k (by omega) (by omega) (fun e => by have := hr k e.symm; omega)⟩
theorem Own.fr {α : Type} {w w' : World} {base : Nat} {t : TypeId} {sz : Nat} {enc : α → List Value} {v : Value} {xs : List α} {o : Nat} {row : Option Nat} (h : Own w base t sz enc v xs) (hF : Fr w w' o row)
    (h1 : v.ownBlock ≠ some o) (h2 : ∀ g, v.ownBlock = some g → row ≠ some g) : Own w' base t sz enc v xs := by
  refine ⟨h.1, ?_⟩
  have hlt := h.lt
  rcases h.2 with h3 | ⟨g, cap, cur, hv, hb, hg, r⟩
  · exact .inl h3
  · have hvg : v.ownBlock = some g := by rw [hv]; rfl
    have hgl := (hlt g hvg).2
    exact .inr ⟨g, cap, cur, hv, hb, (hF.block g hgl (fun e => h1 (by rw [hvg, e])) (fun e => h2 g hvg e.symm)).trans hg, r⟩
section
variable {o B : Nat} {sA hA : Option Addr} {sn sc hn hc : Nat} {L : List SeatV} {hs : List HeldV} {w : World}
theorem OffAt.grown {w' : World} {row : Option Nat} (h : OffAt w o B sA sn sc L hA hn hc hs) (hg : w.grownBy w' row) (hr : ∀ g, row = some g → B ≤ g) (hne : ∀ g, row = some g → (Value.slice hA hn hc).ownBlock ≠ some g) :
    OffAt w' o B sA sn sc L hA hn hc hs := by
  have hlt := h.lt
  refine ⟨h.blk.grown hg (fun e => by have := hr o e.symm; omega), ?_, ?_, h.lt, h.sb⟩
  · rcases Nat.eq_zero_or_pos sn with h0 | h0
    · have hl := h.seats.len
      obtain rfl : L = [] := List.eq_nil_of_length_eq_zero (by omega)
      exact ⟨hl, h.seats.le, h.seats.max, h.seats.none_, fun k x hx => by simp at hx⟩
    · obtain ⟨b, off, e, _⟩ := h.seats.addr h0
      have hb := h.sb b off h0 e
      exact h.seats.grown4 hg (fun a ha e2 => by
        rw [e] at ha; injection ha with ha; subst ha
        have := hr b e2.symm; omega)
  · refine h.own.kept hg ?_
    cases hv : (Value.slice hA hn hc).ownBlock with
    | none => exact .inl rfl
    | some g => exact .inr (fun e => hne g e.symm hv)
/-- A new office. -/
theorem OffAt.made {A : Option Addr} {n c : Nat} (h : At w 3 eS A n c L) : OffAt (w.alloc (.cells #[.slice A n c, .slice none 0 0] 55)) w.heap.size (w.heap.size + 1) A n c L none 0 0 [] :=
  ⟨Blk.new _ _ _, h.ext (Ext.alloc _ _), Own.nil _ _ _ _ _, Nat.lt_succ_self _, fun b off h0 e => by
    obtain ⟨b', off', e', hc⟩ := h.addr h0
    rw [e] at e'; injection e' with e'; injection e' with e1 e2; subst e1 e2
    have hl := h.len
    have := cell_lt (hc 0 (by omega) 0 _ rfl)
    simp at this; omega⟩
end
set_option maxRecDepth 100000 in
set_option maxHeartbeats 4000000 in
theorem keyLease_any {A B : Option Addr} {n c m d : Nat} {L : List SeatV} {Q : List AskV} {w : World} (h : At w 3 eS A n c L) (hg : ∀ x ∈ L, okS x) (h2 : At w 4 eA B m d Q) (hq : ∀ x ∈ Q, okA x) :
    Calls Try.prog 7 #[.slice A n c, .slice B m d] w (Gives 2 e2 w (leaV L Q) (asksF L Q)) := by
  obtain ⟨i0, hi0, hz0, hz1, hz2⟩ := info_parts Try.info37
  have HA := hide (keyAsks_any h hg h2 hq)
  have H := hide h
  have H2 := hide h2
  have hb := h2.bound
  have HLN := hide h2.len
  clear h hg h2 hq
  unfold leaV
  by_cases hz : asksF L Q = 0
  rotate_left
  · rw [if_neg hz]
    have hb' : (asksF L Q != 0) = true := by rw [bne_iff_ne]; exact hz
    generalize asksF L Q = r at *
    clear hz
    go_enter Try.func7, Try.ntmps7
    go_wp2_with fail
    refine HA.out.mono ?_
    rintro e w1 ⟨rfl, e1⟩
    go_wp2_with fail
    go_ret2
    exact gives_nil _ e1
  rw [if_pos hz, hz]
  have ok := hide (asksF_ok hz)
  have HSG := hide (fun x hx => (seatsF_ok ok.out.1 x hx).2)
  have hm : m ≤ 2000 := by have := ok.out.2.1; have := HLN.out; omega
  rw [hz] at HA
  clear hz
  go_enter Try.func7, Try.ntmps7
  go_wp2_with fail
  refine HA.out.mono ?_
  rintro e w1 ⟨rfl, e1⟩
  have E1 := hide e1
  clear e1
  go_wp2_with fail
  go_loopw [8, 22] (fun ro ri wr => ∃ (k : Nat) (hA : Option Addr) (hn hc : Nat), k ≤ m ∧ ri = .int .i64 k ∧ Hid (OffAt wr w1.heap.size (w1.heap.size + 1) A n c L hA hn hc (heldsF L (Q.take k))) ∧ Hid (∀ g, ro.ownBlock = some g → (Value.slice hA hn hc).ownBlock ≠ some g) ∧ Hid (Own wr (w1.heap.size + 1) 37 2 e2 ro (leasesK L Q k)) ∧ Hid (Ext w1 wr)) (fun _ ri _ => m - (intOf ri).toNat)
  case atStart => exact ⟨0, none, 0, 0, by omega, rfl, hide (by simpa [heldsF] using OffAt.made (H.out.ext E1.out)), hide (fun g h => by cases h), hide (by simpa [leasesK] using Own.nil _ _ _ _ _), hide (Ext.alloc _ _)⟩
  case round =>
    obtain ⟨k, hA, hn, hc, hk, rfl, HOF, HD, HO, HX⟩ := hrel
    by_cases hlt : k < m
    rotate_left
    · obtain rfl : k = m := by omega
      have ho := HO.out
      rw [show leasesK L Q k = leasesF L Q by unfold leasesK leasesF; rw [HLN.out]] at ho
      obtain ⟨A3, c3, hv3, a3⟩ := ho.at_ len_e2
      subst hv3
      have P3 := hide a3
      clear a3 ho
      go_wp2
      go_ret2
      exact ⟨_, _, _, rfl, P3.out, Ext.trans E1.out HX.out⟩
    have HW := hide (Ext.trans E1.out HX.out)
    have hln : hn ≤ 3000 := by have h1 := HOF.out.own.len len_eHd; have h3 := heldsF_len L (Q.take k); have h4 : (Q.take k).length ≤ k := List.length_take_le _ _; omega
    have HQ := hide (H2.out.ext HW.out)
    obtain ⟨b, off, rfl, _⟩ := H2.out.addr (by omega)
    have a0 := HQ.out.cellK hlt d0A 0 _ rfl
    have a1 := HQ.out.cellK hlt d0A 1 _ rfl
    have a2 := HQ.out.cellK hlt d0A 2 _ rfl
    have a3 := HQ.out.cellK hlt d0A 3 _ rfl
    simp only [Nat.add_zero] at a0
    have hel := askEl_ok (ok.out.2.2 k (by have := HLN.out; omega))
    have HTK := hide (heldsF_take (L := L) (Q := Q) (k := k) (by have := HLN.out; omega))
    have HLK := hide (leasesK_succ L Q k)
    have ht := hel.1
    generalize Q.getD k d0A = x at *
    obtain ⟨t, u, s, q⟩ := x
    simp only at a0 a1 a2 a3 ht
    have hbw : w1.heap.size + 1 ≤ wr.heap.size := by have := HOF.out.blk.lt; omega
    have HAN := hide (fun (W : World) (hW : Ext wr W) => keyAns_any (u := u) (s := s) (kd := q) (HOF.out.ext hW) ht HSG.out hln (Nat.le_trans hbw hW.size))
    have xl : (leasesK L Q k).length = k := by simp [leasesK]
    have S1 : Hid ((leasesK L Q k).length + 1 ≤ maxLen) := hide (by rw [xl]; unfold maxLen; omega)
    have S2 : Hid (((leasesK L Q k).length + 1) * 16 ≤ 140737488355328) := hide (by rw [xl]; omega)
    generalize ansF L (heldsF L (Q.take k)) (t, u, s, q) = an at *
    have HBW := hide hbw
    clear hel ht xl hbw
    go_wp2_with fail
    refine (HAN.out _ (by repeat' (first | (with_reducible exact Below.refl _ _) | (with_reducible assumption) | (with_reducible refine below_drewN ?_ _) | (with_reducible refine Below.drew ?_) | (with_reducible refine ext_alloc ?_ _) | (with_reducible refine Below.setCell ?_ ?_ _) | go_size))).mono ?_
    rintro e w5 ⟨hA5, hn5, hc5, rfl, f5, fr5, own5⟩
    have OF5 := hide f5
    have F5 := hide fr5
    have hrow : ∀ g, (Value.slice hA hn hc).ownBlock = some g → w1.heap.size + 1 ≤ g := fun g hg => (HOF.out.own.lt g hg).1
    have HROW := hide hrow
    have E5 : Hid (Ext w1 w5) := hide (Below.trans (Below.trans HX.out ((Ext.alloc wr _).mono HX.out.size)) (Fr.below F5.out (Nat.le_trans HX.out.size (Ext.alloc _ _).size) (Nat.le_refl _) (fun g hg => by have := HROW.out g hg; omega)))
    have O5 := hide ((HO.out.ext (Ext.alloc wr (.cells #[.int .i64 t, .string u, .string s, .int .i64 q] 33))).fr F5.out (fun e => by have := (HO.out.lt _ e).1; omega) (fun g hg => HD.out g hg))
    have D5 : Hid (∀ g, u8.ownBlock = some g → (Value.slice hA5 hn5 hc5).ownBlock ≠ some g) := hide (fun g hg e => by
      rcases own5 with h | ⟨g', h, hg'⟩
      · exact HD.out g hg (h.symm.trans e)
      · have h1 := (HO.out.lt g hg).2
        rw [h] at e; injection e with e
        rw [World.size_alloc] at hg'
        omega)
    clear f5 fr5 own5 hrow
    have A9 := hide (At.pair1 w5 an.1.1 an.1.2 37)
    have HSZ := hide (show w1.heap.size + 1 ≤ w5.heap.size by have := OF5.out.blk.lt; omega)
    go_wp2_with (at_builtin; (refine wpList_append_at _ rfl (.tmp 26) (.tmp 30) 24 rfl (w1.heap.size + 1) 37 i0 _ 16 Try.underlying24 hi0 hz0 hz1 hz2 rfl (by omega) len_e2 one_e2 _ _ (by rfl) (O5.out.ext (by repeat' (first | (with_reducible exact Below.refl _ _) | (with_reducible assumption) | (with_reducible refine below_drewN ?_ _) | (with_reducible refine Below.drew ?_) | (with_reducible refine ext_alloc ?_ _) | (with_reducible refine Below.setCell ?_ ?_ _) | go_size))) (some ⟨w5.heap.size, 0, none⟩) 1 1 [an.1] (by rfl) A9.out S1.out S2.out (Nat.le_trans HSZ.out (Ext.alloc _ _).size) ?_))
    intro v7 w7 o7 g7 _ hv7
    have O7 := hide o7
    have hu8 : ∀ g, u8.ownBlock = some g → w1.heap.size + 1 ≤ g := fun g hg => (O5.out.lt g hg).1
    have E7 := hide (show Ext w1 w7 from Below.trans E5.out (Below.grown ((Ext.alloc w5 _).mono E5.out.size) g7 (Nat.le_trans E5.out.size (Ext.alloc _ _).size) (fun g hg => by have := hu8 g hg; omega)))
    have OF7 := hide ((OF5.out.ext (Ext.alloc w5 _)).grown g7 hu8 (fun g hg => D5.out g hg))
    have D7 : Hid (∀ g, v7.ownBlock = some g → (Value.slice hA5 hn5 hc5).ownBlock ≠ some g) := hide (fun g hg e => by
      rcases hv7 with h | h
      · exact D5.out g (h.symm.trans hg) e
      · rw [h] at hg; injection hg with hg
        have h1 := (OF5.out.own.lt g e).2
        omega)
    clear o7 g7 hv7 hu8
    go_wp2_with fail
    go_roundw
    case rel => exact ⟨k + 1, _, _, _, by omega, by go_num, hide (by rw [HTK.out]; exact OF7.out), D7, hide (by rw [HLK.out]; exact O7.out), E7⟩
    case measure => simp [intOf]; omega
end Go.Proofs.Ytfpmjaeehhegcaa
