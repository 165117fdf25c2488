/- Walks: Until (both): each gives the end of what licences permit. Conditions: strings are no longer than strings can be. -/
import Derived.Test.YtfpmjaeehhegcaaLicE
import Derived.Test.YtfpmjaeehhegcaaAnsR
import Derived.Lib.MinMax
import Derived.Deep.DeepCutAuto
namespace Go.Proofs.Ytfpmjaeehhegcaa
open Go.RowKit

theorem afterN_mono {σ : Type} (l : List (LicT σ)) (first : Int) {t t' : Int} (h : t ≤ t') : afterN l first t' ≤ afterN l first t := by
  unfold afterN
  exact List.countP_mono_left fun x _ hx => by simp only [decide_eq_true_eq] at *; omega
/-- The first time of a play, or that of now. -/
def frI (F T : Int) : Int := if F < 0 then T else F
theorem mem_lvs {L : List LicM} {k : Nat} (hk : k < L.length) : (L.getD k d0L).1 ∈ lvs L := List.mem_map.2 ⟨_, getD_mem L k d0L hk, rfl⟩
theorem lvs_all {L : List LicM} {q : WhoT ByteArray} {F t : Int} (h : ∀ j, j < L.length → permB q F t (L.getD j d0L).1 = false) : ∀ x ∈ lvs L, permB q F t x = false := by
  intro x hx
  obtain ⟨y, hy, rfl⟩ := List.mem_map.1 hx
  obtain ⟨j, hj, rfl⟩ := mem_getD d0L hy
  exact h j hj
/-- What the program's rounds lower. -/
def muU (L : List LicM) (F : Int) (g : Nat) (m : Value) (w : World) : Nat :=
  match m, w.cell? ⟨g, 0, none⟩ with | .bool true, some (.int _ t) => 1 + afterN (lvs L) F t | _, _ => 0
theorem muU_true {L : List LicM} {F t : Int} {g : Nat} {w : World} (h : w.cell? ⟨g, 0, none⟩ = some (.int .i64 t)) : muU L F g (.bool true) w = 1 + afterN (lvs L) F t := by unfold muU; rw [h]
theorem muU_false {L : List LicM} {F : Int} {g : Nat} {w : World} : muU L F g (.bool false) w = 0 := by unfold muU; rfl
theorem muU_lt {L : List LicM} {F t t' : Int} {g : Nat} {w w' : World} {m : Bool} (h : w.cell? ⟨g, 0, none⟩ = some (.int .i64 t)) (h' : w'.cell? ⟨g, 0, none⟩ = some (.int .i64 t')) (hm : m = true → afterN (lvs L) F t' < afterN (lvs L) F t) :
    muU L F g (.bool m) w' < muU L F g (.bool true) w := by
  rw [muU_true h]
  cases m with
  | false => rw [muU_false]; omega
  | true => rw [muU_true h']; have := hm rfl; omega
/-- A fault, or the end. -/
def UntQ (w w' : World) (L : List LicM) (us : ByteArray) (p T F : Int) (os : ByteArray) (ht r t : Int) : Prop :=
  (r ≠ 0 → t = 0) ∧ (r = 0 → (T ≤ t ∧ t ≤ 1000000000000000) ∧ EndI (whoV us p os ht) (lvs L) (frI F T) T t) ∧ Ext w w'
def UntGives (w : World) (L : List LicM) (us : ByteArray) (p T F : Int) (os : ByteArray) (ht : Int) (e : Ending) (w' : World) : Prop :=
  ∃ t : Int, e = .returned (.tuple #[.int .i64 t, .int .i64 (playF L us p T F os ht)]) ∧ UntQ w w' L us p T F os ht (playF L us p T F os ht) t
/-- The inner rounds of the program. -/
def InU (L : List LicM) (q : WhoT ByteArray) (F T t t' : Int) (m : Bool) (k : Nat) : Prop :=
  (t ≤ t' ∧ t' ≤ 1000000000000000) ∧ CovI q (lvs L) F T t' ∧ (m = false → t' = t ∧ ∀ j, j < k → permB q F t (L.getD j d0L).1 = false) ∧ (m = true → afterN (lvs L) F t' < afterN (lvs L) F t)
section
variable {L : List LicM} {q : WhoT ByteArray} {F T t t' : Int} {m : Bool} {k : Nat}
theorem InU.start (h : CovI q (lvs L) F T t) (ht : t ≤ 1000000000000000) : InU L q F T t t false 0 := ⟨⟨Int.le_refl _, ht⟩, h, fun _ => ⟨rfl, fun j hj => by omega⟩, fun h => by cases h⟩
theorem InU.skip (h : InU L q F T t t' m k) (hp : permB q F t' (L.getD k d0L).1 = false) : InU L q F T t t' m (k + 1) := by
  refine ⟨h.1, h.2.1, fun hm => ?_, h.2.2.2⟩
  obtain ⟨e, ha⟩ := h.2.2.1 hm
  refine ⟨e, fun j hj => ?_⟩
  rcases Nat.lt_succ_iff_lt_or_eq.1 hj with h | h
  · exact ha j h
  · rw [h, ← e]; exact hp
theorem InU.take (h : InU L q F T t t' m k) (hk : k < L.length) (hF : F ≠ -1) (hl : 0 ≤ (L.getD k d0L).1.long) (hu : (L.getD k d0L).1.upto ≤ 1000000000000000) (hp : permB q F t' (L.getD k d0L).1 = true) : InU L q F T t (stopI F (L.getD k d0L).1) true (k + 1) := by
  obtain ⟨h1, h2⟩ := h.2.1.step hF hl (mem_lvs hk) hp
  have h3 := (perm_stop hF hl hp).2.1
  refine ⟨⟨by have := h.1.1; omega, by omega⟩, h1, fun h => (by cases h), fun _ => ?_⟩
  have h4 := afterN_lt (mem_lvs hk) h2 (Int.le_refl _)
  have h5 := afterN_mono (lvs L) F h.1.1
  omega
/-- The inner rounds of the reference. -/
def InR (L : List LicM) (q : WhoT ByteArray) (F T t e : Int) (k : Nat) : Prop :=
  (t ≤ e ∧ e ≤ 1000000000000000) ∧ CovI q (lvs L) F T e ∧ (e = t → ∀ j, j < k → permB q F t (L.getD j d0L).1 = false) ∧ (e ≠ t → afterN (lvs L) F e < afterN (lvs L) F t)
variable {e : Int}
theorem InR.start (h : CovI q (lvs L) F T t) (ht : t ≤ 1000000000000000) : InR L q F T t t 0 := ⟨⟨Int.le_refl _, ht⟩, h, fun _ j hj => by omega, fun h => absurd rfl h⟩
theorem InR.skip (h : InR L q F T t e k) (hp : permB q F t (L.getD k d0L).1 = false) : InR L q F T t e (k + 1) := by
  refine ⟨h.1, h.2.1, fun he j hj => ?_, h.2.2.2⟩
  rcases Nat.lt_succ_iff_lt_or_eq.1 hj with h' | h'
  · exact h.2.2.1 he j h'
  · rw [h']; exact hp
theorem InR.take (h : InR L q F T t e k) (hc : CovI q (lvs L) F T t) (hk : k < L.length) (hF : F ≠ -1) (hl : 0 ≤ (L.getD k d0L).1.long) (hu : (L.getD k d0L).1.upto ≤ 1000000000000000) (hp : permB q F t (L.getD k d0L).1 = true) : InR L q F T t (max e (stopI F (L.getD k d0L).1)) (k + 1) := by
  obtain ⟨h1, h2⟩ := hc.step hF hl (mem_lvs hk) hp
  have h3 := (perm_stop hF hl hp).2.1
  have h0 := h.1
  refine ⟨⟨by omega, by omega⟩, h.2.1.max h1, fun he => by omega, fun _ => ?_⟩
  exact afterN_lt (mem_lvs hk) h2 (by omega)
end

set_option maxRecDepth 100000 in
set_option maxHeartbeats 16000000 in
theorem keyUntil_any {A : Option Addr} {n c : Nat} {L : List LicM} {w : World} (h : At w 8 eL A n c L) (hO : Outs w L) (hg : ∀ x ∈ L, okL x) (us : ByteArray) (hus : us.size ≤ maxLen) (p T F : Int) (os : ByteArray) (hos : os.size ≤ maxLen) (ht : Int) :
    Calls Try.prog 21 #[.slice A n c, .string us, .int .i64 p, .agg #[.int .i64 T, .int .i64 F, .string os, .int .i64 ht]] w (UntGives w L us p T F os ht) := by
  have HC := hide (fun (W : World) (hW : Ext w W) => keyPlayF_any (h.ext hW) (hO.ext hW) hg us hus p T F os hos ht)
  have HBX := hide (Blk.new w 44 #[.int .i64 T, .int .i64 F, .string os, .int .i64 ht])
  have hb := h.bound
  have HLN := hide h.len
  have H := hide h
  have HOO := hide hO
  clear h hg hus hos hO
  by_cases hz : playF L us p T F os ht = 0
  rotate_left
  · have hz' := hide hz
    have hb' : (playF L us p T F os ht != 0) = true := by rw [bne_iff_ne]; exact hz
    unfold UntGives
    generalize playF L us p T F os ht = r at *
    clear hz
    go_enter Try.func21, Try.ntmps21
    go_wp2_with fail
    refine (HC.out _ (by repeat' (first | (with_reducible exact Below.refl _ _) | (with_reducible assumption) | (with_reducible refine below_drewN ?_ _) | (with_reducible refine Below.drew ?_) | (with_reducible refine ext_alloc ?_ _) | (with_reducible refine Below.setCell ?_ ?_ _) | go_size))).mono ?_
    rintro e w1 ⟨rfl, e1⟩
    have E1 := hide (show Ext w w1 from Ext.trans (by repeat' (first | (with_reducible exact Below.refl _ _) | (with_reducible assumption) | (with_reducible refine below_drewN ?_ _) | (with_reducible refine Below.drew ?_) | (with_reducible refine ext_alloc ?_ _) | (with_reducible refine Below.setCell ?_ ?_ _) | go_size)) e1)
    clear e1
    go_wp2_with fail
    go_ret2
    exact ⟨0, rfl, fun _ => rfl, fun h => absurd h hz'.out, E1.out⟩
  unfold UntGives
  obtain ⟨z0, _, _, z3, z4, _, _⟩ := playF_ok hz
  have hn := (licsF_ok z0).1
  have hn2 : n ≤ 200 := by have := HLN.out; omega
  have HOK := hide (licsF_ok z0).2
  rw [hz] at HC
  rw [hz]
  clear hz z0 hn
  have HPE := hide (fun (W : World) (hW : Ext w W) (k : Nat) (hk : k < L.length) (t' F' : Int) (hF' : -1 ≤ F' ∧ F' ≤ 1000000000000000) => keyPerm_any (L.getD k d0L).1.user (L.getD k d0L).1.id (L.getD k d0L).1.pf (L.getD k d0L).1.pt (L.getD k d0L).1.frm (L.getD k d0L).1.upto (L.getD k d0L).1.long ((HOO.out _ (getD_mem L k d0L hk)).ext hW) us p t' F' os ht (HOK.out _ (getD_mem L k d0L hk)).2 hF')
  have HEND : Hid (∀ t w', Ext w w' → (T ≤ t ∧ t ≤ 1000000000000000) → EndI (whoV us p os ht) (lvs L) (frI F T) T t → UntQ w w' L us p T F os ht 0 t) := hide (fun t w' he hb hE => ⟨fun h => absurd rfl h, fun _ => ⟨hb, hE⟩, he⟩)
  have HFR : Hid (frI F T = (if F < 0 then T else F)) := hide rfl
  have hf1 : 0 ≤ frI F T ∧ frI F T ≤ 1000000000000000 := by rw [HFR.out]; split <;> omega
  obtain ⟨z31, z32⟩ := z3
  obtain ⟨z41, z42⟩ := z4
  obtain ⟨hf11, hf12⟩ := hf1
  have hway : ∀ w1 : World, Ext w w1 → Blk w1 w.heap.size 44 #[.int .i64 T, .int .i64 (frI F T), .string os, .int .i64 ht] → True := fun _ _ _ => trivial
  clear hway
  cases hm : (F == -1) with
  | true =>
    have hfr : frI F T = T := by rw [HFR.out, if_pos (by have := beq_iff_eq.1 hm; omega)]
    have HFQ := hide hfr
    clear hfr
    go_enter Try.func21, Try.ntmps21
    go_wp2_with fail
    refine (HC.out _ (by repeat' (first | (with_reducible exact Below.refl _ _) | (with_reducible assumption) | (with_reducible refine below_drewN ?_ _) | (with_reducible refine Below.drew ?_) | (with_reducible refine ext_alloc ?_ _) | (with_reducible refine Below.setCell ?_ ?_ _) | go_size))).mono ?_
    rintro e w1 ⟨rfl, e1⟩
    have E1 := hide (show Ext w w1 from Ext.trans (by repeat' (first | (with_reducible exact Below.refl _ _) | (with_reducible assumption) | (with_reducible refine below_drewN ?_ _) | (with_reducible refine Below.drew ?_) | (with_reducible refine ext_alloc ?_ _) | (with_reducible refine Below.setCell ?_ ?_ _) | go_size)) e1)
    have b1 := HBX.out.ext e1
    have HB1 := hide b1
    have x0 := b1.cell 0
    have x1 := b1.cell 1
    have x2 := b1.cell 2
    have x3 := b1.cell 3
    have f1 := b1.frozen 1
    have zl := b1.lt
    clear e1 b1
    go_upto_region 6 with (fail)
    refine gen_wp4 fun w2 h2 => ?_
    have E2 := hide (show Ext w w2 from by have ew := E1.out; rw [h2]; exact (by repeat' (first | (with_reducible exact Below.refl _ _) | (with_reducible assumption) | (with_reducible refine below_drewN ?_ _) | (with_reducible refine Below.drew ?_) | (with_reducible refine ext_alloc ?_ _) | (with_reducible refine Below.setCell ?_ ?_ _) | go_size)))
    have B2 := hide (show Blk w2 w.heap.size 44 #[.int .i64 T, .int .i64 (frI F T), .string os, .int .i64 ht] from by rw [h2, HFQ.out]; exact HB1.out.set_ 1 _)
    clear h2 x0 x1 x2 x3 f1 zl HB1 E1 hm HFQ
    generalize frI F T = G at *
    clear HFR
    go_wp2_with fail
    go_loopw [11] (fun m wr => ∃ (b : Bool) (t : Int), m = .bool b ∧ Hid ((T ≤ t ∧ t ≤ 1000000000000000) ∧ CovI (whoV us p os ht) (lvs L) G T t ∧ (b = false → ∀ j, j < L.length → permB (whoV us p os ht) G t (L.getD j d0L).1 = false)) ∧ Hid (Blk wr w.heap.size 44 #[.int .i64 t, .int .i64 G, .string os, .int .i64 ht]) ∧ Hid (Ext w wr)) (fun m wr => muU L G w.heap.size m wr)
    case atStart => exact ⟨true, T, rfl, hide ⟨⟨Int.le_refl _, z32⟩, CovI.refl, fun h => by cases h⟩, B2, E2⟩
    case round =>
      obtain ⟨b, t, rfl, HT, HB, HX⟩ := hrel
      cases b with
      | false =>
        have x0 := HB.out.cell 0
        go_wp2_with fail
        go_ret2
        exact ⟨t, rfl, HEND.out t _ HX.out HT.out.1 ⟨HT.out.2.1, lvs_all (HT.out.2.2 (by first | trivial | rfl))⟩⟩
      | true =>
      have htb := HT.out.1
      have HMU : Hid (∀ (m : Bool) (t' : Int) (w' : World), Blk w' w.heap.size 44 #[.int .i64 t', .int .i64 G, .string os, .int .i64 ht] → (m = true → afterN (lvs L) G t' < afterN (lvs L) G t) → muU L G w.heap.size (.bool m) w' < muU L G w.heap.size (.bool true) wr) := hide (fun m t' w' hb' hm => muU_lt (HB.out.cell 0) (hb'.cell 0) hm)
      go_wp2_with fail
      obtain ⟨wo, rfl⟩ : ∃ wo : World, wo = wr := ⟨_, rfl⟩
      go_loopw [11, 31] (fun m ri wr => ∃ (k : Nat) (b : Bool) (t' : Int), k ≤ n ∧ ri = .int .i64 k ∧ m = .bool b ∧ Hid (InU L (whoV us p os ht) G T t t' b k) ∧ Hid (Blk wr w.heap.size 44 #[.int .i64 t', .int .i64 G, .string os, .int .i64 ht]) ∧ Hid (Ext w wr)) (fun _ ri _ => n - (intOf ri).toNat)
      case atStart => exact ⟨0, false, t, by omega, rfl, rfl, hide (InU.start HT.out.2.1 htb.2), HB, HX⟩
      case round =>
        obtain ⟨k, b, t', hk, rfl, rfl, HI, HB2, HX2⟩ := hrel
        by_cases hlt : k < n
        rotate_left
        · have hkl : k = L.length := by have := HLN.out; omega
          have HKL := hide hkl
          clear hkl
          go_wp2_with fail
          go_roundw
          case rel => exact ⟨b, t', rfl, hide ⟨⟨by have := HI.out.1; have := HT.out.1; omega, HI.out.1.2⟩, HI.out.2.1, fun hb j hj => by
            obtain ⟨e, ha⟩ := HI.out.2.2.1 hb
            rw [e]; exact ha j (by have := HKL.out; omega)⟩, HB2, HX2⟩
          case measure => exact HMU.out b t' _ HB2.out HI.out.2.2.2
        have hkl : k < L.length := by have := HLN.out; omega
        have HW := hide (H.out.ext HX2.out)
        obtain ⟨bb, off, rfl, _⟩ := H.out.addr (by omega)
        have a0 := HW.out.cellK hlt d0L 0 _ rfl
        have a1 := HW.out.cellK hlt d0L 1 _ rfl
        have a2 := HW.out.cellK hlt d0L 2 _ rfl
        have a3 := HW.out.cellK hlt d0L 3 _ rfl
        have a4 := HW.out.cellK hlt d0L 4 _ rfl
        have a5 := HW.out.cellK hlt d0L 5 _ rfl
        have a6 := HW.out.cellK hlt d0L 6 _ rfl
        have a7 := HW.out.cellK hlt d0L 7 _ rfl
        simp only [Nat.add_zero] at a0
        have hup := HOK.out _ (getD_mem L k d0L hkl)
        have HP := hide (fun (W : World) (hW : Ext w W) => HPE.out W hW k hkl t' G (by omega))
        have HSK := hide (fun hp => HI.out.skip (k := k) hp)
        have HTK := hide (fun hp => HI.out.take hkl (by omega) hup.2.1 hup.1.2 hp)
        clear hkl
        have HST : Hid (stopI G (L.getD k d0L).1 = if 0 < (L.getD k d0L).1.long then min (L.getD k d0L).1.upto (G + (L.getD k d0L).1.long) else (L.getD k d0L).1.upto) := hide rfl
        generalize L.getD k d0L = x at *
        obtain ⟨⟨u, i, pf, pt, f, t1, g, O⟩, A', n', c'⟩ := x
        simp only at a0 a1 a2 a3 a4 a5 a6 a7 HP HSK HTK HST hup
        obtain ⟨⟨u1, u2⟩, u3, u4⟩ := hup
        have x0 := (HB2.out.alloc (.cells #[.string u, .string i, .int .i64 pf, .int .i64 pt, .int .i64 f, .int .i64 t1, .int .i64 g, .slice A' n' c'] 74)).cell 0
        have x1 := (HB2.out.alloc (.cells #[.string u, .string i, .int .i64 pf, .int .i64 pt, .int .i64 f, .int .i64 t1, .int .i64 g, .slice A' n' c'] 74)).cell 1
        have x2 := (HB2.out.alloc (.cells #[.string u, .string i, .int .i64 pf, .int .i64 pt, .int .i64 f, .int .i64 t1, .int .i64 g, .slice A' n' c'] 74)).cell 2
        have x3 := (HB2.out.alloc (.cells #[.string u, .string i, .int .i64 pf, .int .i64 pt, .int .i64 f, .int .i64 t1, .int .i64 g, .slice A' n' c'] 74)).cell 3
        cases hp : permB (whoV us p os ht) G t' (⟨u, i, pf, pt, f, t1, g, O⟩ : LicV) with
        | false =>
          have HI2 := hide (HSK.out hp)
          rw [hp] at HP
          clear hp
          go_wp2_with fail
          refine (HP.out _ (Ext.trans HX2.out (by repeat' (first | (with_reducible exact Below.refl _ _) | (with_reducible assumption) | (with_reducible refine below_drewN ?_ _) | (with_reducible refine Below.drew ?_) | (with_reducible refine ext_alloc ?_ _) | (with_reducible refine Below.setCell ?_ ?_ _) | go_size)))).mono ?_
          rintro e w5 ⟨rfl, e5⟩
          have E5 := hide (Ext.trans (Ext.trans HX2.out (by repeat' (first | (with_reducible exact Below.refl _ _) | (with_reducible assumption) | (with_reducible refine below_drewN ?_ _) | (with_reducible refine Below.drew ?_) | (with_reducible refine ext_alloc ?_ _) | (with_reducible refine Below.setCell ?_ ?_ _) | go_size))) e5)
          have B5 := hide ((HB2.out.alloc (.cells #[.string u, .string i, .int .i64 pf, .int .i64 pt, .int .i64 f, .int .i64 t1, .int .i64 g, .slice A' n' c'] 74)).ext e5)
          clear e5
          go_wp2_with fail
          go_roundw
          case rel => exact ⟨k + 1, b, t', by omega, by go_num, rfl, HI2, B5, E5⟩
          case measure => simp [intOf]; omega
        | true =>
          have HI2 := hide (HTK.out hp)
          rw [hp] at HP
          clear hp
          go_wp2_with fail
          refine (HP.out _ (Ext.trans HX2.out (by repeat' (first | (with_reducible exact Below.refl _ _) | (with_reducible assumption) | (with_reducible refine below_drewN ?_ _) | (with_reducible refine Below.drew ?_) | (with_reducible refine ext_alloc ?_ _) | (with_reducible refine Below.setCell ?_ ?_ _) | go_size)))).mono ?_
          rintro e w5 ⟨rfl, e5⟩
          have E5 := hide (Ext.trans (Ext.trans HX2.out (by repeat' (first | (with_reducible exact Below.refl _ _) | (with_reducible assumption) | (with_reducible refine below_drewN ?_ _) | (with_reducible refine Below.drew ?_) | (with_reducible refine ext_alloc ?_ _) | (with_reducible refine Below.setCell ?_ ?_ _) | go_size))) e5)
          have b5 := (HB2.out.alloc (.cells #[.string u, .string i, .int .i64 pf, .int .i64 pt, .int .i64 f, .int .i64 t1, .int .i64 g, .slice A' n' c'] 74)).ext e5
          have B5 := hide b5
          have l5 := (Blk.new wr 74 #[.string u, .string i, .int .i64 pf, .int .i64 pt, .int .i64 f, .int .i64 t1, .int .i64 g, .slice A' n' c']).ext e5
          have y5 := l5.cell 5
          have y6 := l5.cell 6
          have v0 := b5.cell 0
          have v1 := b5.cell 1
          have f0 := b5.frozen 0
          have zl := b5.lt
          have hne : w.heap.size ≠ wr.heap.size := by have := HB2.out.lt; omega
          clear e5 b5 l5 x0 x1 x2 x3
          by_cases hgp : 0 < g
          · have HS2 : Hid (stopI G (⟨u, i, pf, pt, f, t1, g, O⟩ : LicV) = min t1 (G + g)) := hide (by rw [HST.out, if_pos hgp])
            rw [HS2.out] at HI2
            go_upto_region 16 with (fail)
            refine gen_wp4 fun w6 h6 => ?_
            have E6 := hide (show Ext w w6 from by have ew := E5.out; rw [h6]; exact (by repeat' (first | (with_reducible exact Below.refl _ _) | (with_reducible assumption) | (with_reducible refine below_drewN ?_ _) | (with_reducible refine Below.drew ?_) | (with_reducible refine ext_alloc ?_ _) | (with_reducible refine Below.setCell ?_ ?_ _) | go_size)))
            have B6 := hide (show Blk w6 w.heap.size 44 #[.int .i64 (min t1 (G + g)), .int .i64 G, .string os, .int .i64 ht] from by rw [h6]; exact (B5.out.set_ 0 _).set_ 0 _)
            clear h6 v0 v1 f0 zl y5 y6 hne
            go_wp2_with fail
            go_roundw
            case rel => exact ⟨k + 1, true, min t1 (G + g), by omega, by go_num, rfl, HI2, B6, E6⟩
            case measure => simp [intOf]; omega
          · have HS2 : Hid (stopI G (⟨u, i, pf, pt, f, t1, g, O⟩ : LicV) = t1) := hide (by rw [HST.out, if_neg hgp])
            rw [HS2.out] at HI2
            go_upto_region 16 with (fail)
            refine gen_wp4 fun w6 h6 => ?_
            have E6 := hide (show Ext w w6 from by have ew := E5.out; rw [h6]; exact (by repeat' (first | (with_reducible exact Below.refl _ _) | (with_reducible assumption) | (with_reducible refine below_drewN ?_ _) | (with_reducible refine Below.drew ?_) | (with_reducible refine ext_alloc ?_ _) | (with_reducible refine Below.setCell ?_ ?_ _) | go_size)))
            have B6 := hide (show Blk w6 w.heap.size 44 #[.int .i64 t1, .int .i64 G, .string os, .int .i64 ht] from by rw [h6]; exact B5.out.set_ 0 _)
            clear h6 v0 v1 f0 zl y5 y6 hne
            go_wp2_with fail
            go_roundw
            case rel => exact ⟨k + 1, true, t1, by omega, by go_num, rfl, HI2, B6, E6⟩
            case measure => simp [intOf]; omega
  | false =>
    have hfr : frI F T = F := by rw [HFR.out, if_neg (by have := beq_eq_false_iff_ne.1 hm; omega)]
    have HFQ := hide hfr
    clear hfr
    go_enter Try.func21, Try.ntmps21
    go_wp2_with fail
    refine (HC.out _ (by repeat' (first | (with_reducible exact Below.refl _ _) | (with_reducible assumption) | (with_reducible refine below_drewN ?_ _) | (with_reducible refine Below.drew ?_) | (with_reducible refine ext_alloc ?_ _) | (with_reducible refine Below.setCell ?_ ?_ _) | go_size))).mono ?_
    rintro e w1 ⟨rfl, e1⟩
    have E1 := hide (show Ext w w1 from Ext.trans (by repeat' (first | (with_reducible exact Below.refl _ _) | (with_reducible assumption) | (with_reducible refine below_drewN ?_ _) | (with_reducible refine Below.drew ?_) | (with_reducible refine ext_alloc ?_ _) | (with_reducible refine Below.setCell ?_ ?_ _) | go_size)) e1)
    have b1 := HBX.out.ext e1
    have HB1 := hide b1
    have x0 := b1.cell 0
    have x1 := b1.cell 1
    have x2 := b1.cell 2
    have x3 := b1.cell 3
    have f1 := b1.frozen 1
    have zl := b1.lt
    clear e1 b1
    go_upto_region 6 with (fail)
    refine gen_wp4 fun w2 h2 => ?_
    have E2 := hide (show Ext w w2 from by rw [h2]; exact E1.out)
    have B2 := hide (show Blk w2 w.heap.size 44 #[.int .i64 T, .int .i64 (frI F T), .string os, .int .i64 ht] from by rw [h2, HFQ.out]; exact HB1.out)
    clear h2 x0 x1 x2 x3 f1 zl HB1 E1 hm HFQ
    generalize frI F T = G at *
    clear HFR
    go_wp2_with fail
    go_loopw [11] (fun m wr => ∃ (b : Bool) (t : Int), m = .bool b ∧ Hid ((T ≤ t ∧ t ≤ 1000000000000000) ∧ CovI (whoV us p os ht) (lvs L) G T t ∧ (b = false → ∀ j, j < L.length → permB (whoV us p os ht) G t (L.getD j d0L).1 = false)) ∧ Hid (Blk wr w.heap.size 44 #[.int .i64 t, .int .i64 G, .string os, .int .i64 ht]) ∧ Hid (Ext w wr)) (fun m wr => muU L G w.heap.size m wr)
    case atStart => exact ⟨true, T, rfl, hide ⟨⟨Int.le_refl _, z32⟩, CovI.refl, fun h => by cases h⟩, B2, E2⟩
    case round =>
      obtain ⟨b, t, rfl, HT, HB, HX⟩ := hrel
      cases b with
      | false =>
        have x0 := HB.out.cell 0
        go_wp2_with fail
        go_ret2
        exact ⟨t, rfl, HEND.out t _ HX.out HT.out.1 ⟨HT.out.2.1, lvs_all (HT.out.2.2 (by first | trivial | rfl))⟩⟩
      | true =>
      have htb := HT.out.1
      have HMU : Hid (∀ (m : Bool) (t' : Int) (w' : World), Blk w' w.heap.size 44 #[.int .i64 t', .int .i64 G, .string os, .int .i64 ht] → (m = true → afterN (lvs L) G t' < afterN (lvs L) G t) → muU L G w.heap.size (.bool m) w' < muU L G w.heap.size (.bool true) wr) := hide (fun m t' w' hb' hm => muU_lt (HB.out.cell 0) (hb'.cell 0) hm)
      go_wp2_with fail
      obtain ⟨wo, rfl⟩ : ∃ wo : World, wo = wr := ⟨_, rfl⟩
      go_loopw [11, 31] (fun m ri wr => ∃ (k : Nat) (b : Bool) (t' : Int), k ≤ n ∧ ri = .int .i64 k ∧ m = .bool b ∧ Hid (InU L (whoV us p os ht) G T t t' b k) ∧ Hid (Blk wr w.heap.size 44 #[.int .i64 t', .int .i64 G, .string os, .int .i64 ht]) ∧ Hid (Ext w wr)) (fun _ ri _ => n - (intOf ri).toNat)
      case atStart => exact ⟨0, false, t, by omega, rfl, rfl, hide (InU.start HT.out.2.1 htb.2), HB, HX⟩
      case round =>
        obtain ⟨k, b, t', hk, rfl, rfl, HI, HB2, HX2⟩ := hrel
        by_cases hlt : k < n
        rotate_left
        · have hkl : k = L.length := by have := HLN.out; omega
          have HKL := hide hkl
          clear hkl
          go_wp2_with fail
          go_roundw
          case rel => exact ⟨b, t', rfl, hide ⟨⟨by have := HI.out.1; have := HT.out.1; omega, HI.out.1.2⟩, HI.out.2.1, fun hb j hj => by
            obtain ⟨e, ha⟩ := HI.out.2.2.1 hb
            rw [e]; exact ha j (by have := HKL.out; omega)⟩, HB2, HX2⟩
          case measure => exact HMU.out b t' _ HB2.out HI.out.2.2.2
        have hkl : k < L.length := by have := HLN.out; omega
        have HW := hide (H.out.ext HX2.out)
        obtain ⟨bb, off, rfl, _⟩ := H.out.addr (by omega)
        have a0 := HW.out.cellK hlt d0L 0 _ rfl
        have a1 := HW.out.cellK hlt d0L 1 _ rfl
        have a2 := HW.out.cellK hlt d0L 2 _ rfl
        have a3 := HW.out.cellK hlt d0L 3 _ rfl
        have a4 := HW.out.cellK hlt d0L 4 _ rfl
        have a5 := HW.out.cellK hlt d0L 5 _ rfl
        have a6 := HW.out.cellK hlt d0L 6 _ rfl
        have a7 := HW.out.cellK hlt d0L 7 _ rfl
        simp only [Nat.add_zero] at a0
        have hup := HOK.out _ (getD_mem L k d0L hkl)
        have HP := hide (fun (W : World) (hW : Ext w W) => HPE.out W hW k hkl t' G (by omega))
        have HSK := hide (fun hp => HI.out.skip (k := k) hp)
        have HTK := hide (fun hp => HI.out.take hkl (by omega) hup.2.1 hup.1.2 hp)
        clear hkl
        have HST : Hid (stopI G (L.getD k d0L).1 = if 0 < (L.getD k d0L).1.long then min (L.getD k d0L).1.upto (G + (L.getD k d0L).1.long) else (L.getD k d0L).1.upto) := hide rfl
        generalize L.getD k d0L = x at *
        obtain ⟨⟨u, i, pf, pt, f, t1, g, O⟩, A', n', c'⟩ := x
        simp only at a0 a1 a2 a3 a4 a5 a6 a7 HP HSK HTK HST hup
        obtain ⟨⟨u1, u2⟩, u3, u4⟩ := hup
        have x0 := (HB2.out.alloc (.cells #[.string u, .string i, .int .i64 pf, .int .i64 pt, .int .i64 f, .int .i64 t1, .int .i64 g, .slice A' n' c'] 74)).cell 0
        have x1 := (HB2.out.alloc (.cells #[.string u, .string i, .int .i64 pf, .int .i64 pt, .int .i64 f, .int .i64 t1, .int .i64 g, .slice A' n' c'] 74)).cell 1
        have x2 := (HB2.out.alloc (.cells #[.string u, .string i, .int .i64 pf, .int .i64 pt, .int .i64 f, .int .i64 t1, .int .i64 g, .slice A' n' c'] 74)).cell 2
        have x3 := (HB2.out.alloc (.cells #[.string u, .string i, .int .i64 pf, .int .i64 pt, .int .i64 f, .int .i64 t1, .int .i64 g, .slice A' n' c'] 74)).cell 3
        cases hp : permB (whoV us p os ht) G t' (⟨u, i, pf, pt, f, t1, g, O⟩ : LicV) with
        | false =>
          have HI2 := hide (HSK.out hp)
          rw [hp] at HP
          clear hp
          go_wp2_with fail
          refine (HP.out _ (Ext.trans HX2.out (by repeat' (first | (with_reducible exact Below.refl _ _) | (with_reducible assumption) | (with_reducible refine below_drewN ?_ _) | (with_reducible refine Below.drew ?_) | (with_reducible refine ext_alloc ?_ _) | (with_reducible refine Below.setCell ?_ ?_ _) | go_size)))).mono ?_
          rintro e w5 ⟨rfl, e5⟩
          have E5 := hide (Ext.trans (Ext.trans HX2.out (by repeat' (first | (with_reducible exact Below.refl _ _) | (with_reducible assumption) | (with_reducible refine below_drewN ?_ _) | (with_reducible refine Below.drew ?_) | (with_reducible refine ext_alloc ?_ _) | (with_reducible refine Below.setCell ?_ ?_ _) | go_size))) e5)
          have B5 := hide ((HB2.out.alloc (.cells #[.string u, .string i, .int .i64 pf, .int .i64 pt, .int .i64 f, .int .i64 t1, .int .i64 g, .slice A' n' c'] 74)).ext e5)
          clear e5
          go_wp2_with fail
          go_roundw
          case rel => exact ⟨k + 1, b, t', by omega, by go_num, rfl, HI2, B5, E5⟩
          case measure => simp [intOf]; omega
        | true =>
          have HI2 := hide (HTK.out hp)
          rw [hp] at HP
          clear hp
          go_wp2_with fail
          refine (HP.out _ (Ext.trans HX2.out (by repeat' (first | (with_reducible exact Below.refl _ _) | (with_reducible assumption) | (with_reducible refine below_drewN ?_ _) | (with_reducible refine Below.drew ?_) | (with_reducible refine ext_alloc ?_ _) | (with_reducible refine Below.setCell ?_ ?_ _) | go_size)))).mono ?_
          rintro e w5 ⟨rfl, e5⟩
          have E5 := hide (Ext.trans (Ext.trans HX2.out (by repeat' (first | (with_reducible exact Below.refl _ _) | (with_reducible assumption) | (with_reducible refine below_drewN ?_ _) | (with_reducible refine Below.drew ?_) | (with_reducible refine ext_alloc ?_ _) | (with_reducible refine Below.setCell ?_ ?_ _) | go_size))) e5)
          have b5 := (HB2.out.alloc (.cells #[.string u, .string i, .int .i64 pf, .int .i64 pt, .int .i64 f, .int .i64 t1, .int .i64 g, .slice A' n' c'] 74)).ext e5
          have B5 := hide b5
          have l5 := (Blk.new wr 74 #[.string u, .string i, .int .i64 pf, .int .i64 pt, .int .i64 f, .int .i64 t1, .int .i64 g, .slice A' n' c']).ext e5
          have y5 := l5.cell 5
          have y6 := l5.cell 6
          have v0 := b5.cell 0
          have v1 := b5.cell 1
          have f0 := b5.frozen 0
          have zl := b5.lt
          have hne : w.heap.size ≠ wr.heap.size := by have := HB2.out.lt; omega
          clear e5 b5 l5 x0 x1 x2 x3
          by_cases hgp : 0 < g
          · have HS2 : Hid (stopI G (⟨u, i, pf, pt, f, t1, g, O⟩ : LicV) = min t1 (G + g)) := hide (by rw [HST.out, if_pos hgp])
            rw [HS2.out] at HI2
            go_upto_region 16 with (fail)
            refine gen_wp4 fun w6 h6 => ?_
            have E6 := hide (show Ext w w6 from by have ew := E5.out; rw [h6]; exact (by repeat' (first | (with_reducible exact Below.refl _ _) | (with_reducible assumption) | (with_reducible refine below_drewN ?_ _) | (with_reducible refine Below.drew ?_) | (with_reducible refine ext_alloc ?_ _) | (with_reducible refine Below.setCell ?_ ?_ _) | go_size)))
            have B6 := hide (show Blk w6 w.heap.size 44 #[.int .i64 (min t1 (G + g)), .int .i64 G, .string os, .int .i64 ht] from by rw [h6]; exact (B5.out.set_ 0 _).set_ 0 _)
            clear h6 v0 v1 f0 zl y5 y6 hne
            go_wp2_with fail
            go_roundw
            case rel => exact ⟨k + 1, true, min t1 (G + g), by omega, by go_num, rfl, HI2, B6, E6⟩
            case measure => simp [intOf]; omega
          · have HS2 : Hid (stopI G (⟨u, i, pf, pt, f, t1, g, O⟩ : LicV) = t1) := hide (by rw [HST.out, if_neg hgp])
            rw [HS2.out] at HI2
            go_upto_region 16 with (fail)
            refine gen_wp4 fun w6 h6 => ?_
            have E6 := hide (show Ext w w6 from by have ew := E5.out; rw [h6]; exact (by repeat' (first | (with_reducible exact Below.refl _ _) | (with_reducible assumption) | (with_reducible refine below_drewN ?_ _) | (with_reducible refine Below.drew ?_) | (with_reducible refine ext_alloc ?_ _) | (with_reducible refine Below.setCell ?_ ?_ _) | go_size)))
            have B6 := hide (show Blk w6 w.heap.size 44 #[.int .i64 t1, .int .i64 G, .string os, .int .i64 ht] from by rw [h6]; exact B5.out.set_ 0 _)
            clear h6 v0 v1 f0 zl y5 y6 hne
            go_wp2_with fail
            go_roundw
            case rel => exact ⟨k + 1, true, t1, by omega, by go_num, rfl, HI2, B6, E6⟩
            case measure => simp [intOf]; omega
set_option maxRecDepth 100000 in
set_option maxHeartbeats 16000000 in
theorem refUntil_any {A : Option Addr} {n c : Nat} {L : List LicM} {w : World} (h : At w 8 eL A n c L) (hO : Outs w L) (hg : ∀ x ∈ L, okL x) (us : ByteArray) (hus : us.size ≤ maxLen) (p T F : Int) (os : ByteArray) (hos : os.size ≤ maxLen) (ht : Int) :
    Calls Try.prog 22 #[.slice A n c, .string us, .int .i64 p, .agg #[.int .i64 T, .int .i64 F, .string os, .int .i64 ht]] w (UntGives w L us p T F os ht) := by
  have HC := hide (fun (W : World) (hW : Ext w W) => refPlayF_any (h.ext hW) (hO.ext hW) hg us hus p T F os hos ht)
  have HBX := hide (Blk.new w 44 #[.int .i64 T, .int .i64 F, .string os, .int .i64 ht])
  have hb := h.bound
  have HLN := hide h.len
  have H := hide h
  have HOO := hide hO
  clear h hg hus hos hO
  by_cases hz : playF L us p T F os ht = 0
  rotate_left
  · have hz' := hide hz
    have hb' : (playF L us p T F os ht != 0) = true := by rw [bne_iff_ne]; exact hz
    unfold UntGives
    generalize playF L us p T F os ht = r at *
    clear hz
    go_enter Try.func22, Try.ntmps22
    go_wp2_with fail
    refine (HC.out _ (by repeat' (first | (with_reducible exact Below.refl _ _) | (with_reducible assumption) | (with_reducible refine below_drewN ?_ _) | (with_reducible refine Below.drew ?_) | (with_reducible refine ext_alloc ?_ _) | (with_reducible refine Below.setCell ?_ ?_ _) | go_size))).mono ?_
    rintro e w1 ⟨rfl, e1⟩
    have E1 := hide (show Ext w w1 from Ext.trans (by repeat' (first | (with_reducible exact Below.refl _ _) | (with_reducible assumption) | (with_reducible refine below_drewN ?_ _) | (with_reducible refine Below.drew ?_) | (with_reducible refine ext_alloc ?_ _) | (with_reducible refine Below.setCell ?_ ?_ _) | go_size)) e1)
    clear e1
    go_wp2_with fail
    go_ret2
    exact ⟨0, rfl, fun _ => rfl, fun h => absurd h hz'.out, E1.out⟩
  unfold UntGives
  obtain ⟨z0, _, _, z3, z4, _, _⟩ := playF_ok hz
  have hn := (licsF_ok z0).1
  have hn2 : n ≤ 200 := by have := HLN.out; omega
  have HOK := hide (licsF_ok z0).2
  rw [hz] at HC
  rw [hz]
  clear hz z0 hn
  have HPE := hide (fun (W : World) (hW : Ext w W) (k : Nat) (hk : k < L.length) (t' F' : Int) (hF' : -1 ≤ F' ∧ F' ≤ 1000000000000000) => refPerm_any (L.getD k d0L).1.user (L.getD k d0L).1.id (L.getD k d0L).1.pf (L.getD k d0L).1.pt (L.getD k d0L).1.frm (L.getD k d0L).1.upto (L.getD k d0L).1.long ((HOO.out _ (getD_mem L k d0L hk)).ext hW) us p t' F' os ht (HOK.out _ (getD_mem L k d0L hk)).2 hF')
  have HEND : Hid (∀ t w', Ext w w' → (T ≤ t ∧ t ≤ 1000000000000000) → EndI (whoV us p os ht) (lvs L) (frI F T) T t → UntQ w w' L us p T F os ht 0 t) := hide (fun t w' he hb hE => ⟨fun h => absurd rfl h, fun _ => ⟨hb, hE⟩, he⟩)
  have HFR : Hid (frI F T = (if F < 0 then T else F)) := hide rfl
  have hf1 : 0 ≤ frI F T ∧ frI F T ≤ 1000000000000000 := by rw [HFR.out]; split <;> omega
  obtain ⟨z31, z32⟩ := z3
  obtain ⟨z41, z42⟩ := z4
  obtain ⟨hf11, hf12⟩ := hf1
  cases hm : decide (F < 0) with
  | true =>
    have hm2 : F < 0 := of_decide_eq_true hm
    have hfr : frI F T = T := by rw [HFR.out, if_pos hm2]
    have HFQ := hide hfr
    clear hfr
    go_enter Try.func22, Try.ntmps22
    go_wp2_with fail
    refine (HC.out _ (by repeat' (first | (with_reducible exact Below.refl _ _) | (with_reducible assumption) | (with_reducible refine below_drewN ?_ _) | (with_reducible refine Below.drew ?_) | (with_reducible refine ext_alloc ?_ _) | (with_reducible refine Below.setCell ?_ ?_ _) | go_size))).mono ?_
    rintro e w1 ⟨rfl, e1⟩
    have E1 := hide (show Ext w w1 from Ext.trans (by repeat' (first | (with_reducible exact Below.refl _ _) | (with_reducible assumption) | (with_reducible refine below_drewN ?_ _) | (with_reducible refine Below.drew ?_) | (with_reducible refine ext_alloc ?_ _) | (with_reducible refine Below.setCell ?_ ?_ _) | go_size)) e1)
    have b1 := HBX.out.ext e1
    have HB1 := hide b1
    have x0 := b1.cell 0
    have x1 := b1.cell 1
    have x2 := b1.cell 2
    have x3 := b1.cell 3
    have f1 := b1.frozen 1
    have zl := b1.lt
    clear e1 b1
    go_upto_region 6 with (fail)
    refine gen_wp4 fun w2 h2 => ?_
    have E2 := hide (show Ext w w2 from by have ew := E1.out; rw [h2]; exact (by repeat' (first | (with_reducible exact Below.refl _ _) | (with_reducible assumption) | (with_reducible refine below_drewN ?_ _) | (with_reducible refine Below.drew ?_) | (with_reducible refine ext_alloc ?_ _) | (with_reducible refine Below.setCell ?_ ?_ _) | go_size)))
    have B2 := hide (show Blk w2 w.heap.size 44 #[.int .i64 T, .int .i64 (frI F T), .string os, .int .i64 ht] from by rw [h2, HFQ.out]; exact HB1.out.set_ 1 _)
    clear h2 x0 x1 x2 x3 f1 zl HB1 E1 hm hm2 HFQ
    generalize frI F T = G at *
    clear HFR
    go_wp2_with fail
    have HAL : Hid (afterN (lvs L) G T + 0 ≤ n) := hide (by
      have h1 := afterN_le (lvs L) G T
      have h2 : (lvs L).length = L.length := by unfold lvs; rw [List.length_map]
      have h3 := HLN.out
      omega)
    go_loopw [32] (fun ri wr => ∃ (r : Nat) (t : Int), r ≤ n ∧ ri = .int .i64 r ∧ Hid ((T ≤ t ∧ t ≤ 1000000000000000) ∧ CovI (whoV us p os ht) (lvs L) G T t ∧ afterN (lvs L) G t + r ≤ n) ∧ Hid (Blk wr w.heap.size 44 #[.int .i64 t, .int .i64 G, .string os, .int .i64 ht]) ∧ Hid (Ext w wr)) (fun ri _ => n + 1 - (intOf ri).toNat)
    case atStart => exact ⟨0, T, by omega, rfl, hide ⟨⟨Int.le_refl _, z32⟩, CovI.refl, HAL.out⟩, B2, E2⟩
    case round =>
      obtain ⟨r, t, hr, rfl, HT, HB, HX⟩ := hrel
      have htb := HT.out.1
      have x0 := HB.out.cell 0
      have i1 : decide ((r : Int) < (n : Int) + 1) = true := by simp; omega
      go_wp2_with fail
      obtain ⟨wo, rfl⟩ : ∃ wo : World, wo = wr := ⟨_, rfl⟩
      clear x0
      go_loopw [11, 38] (fun me ri wr => ∃ (k : Nat) (e : Int), k ≤ n ∧ ri = .int .i64 k ∧ me = .int .i64 e ∧ Hid (InR L (whoV us p os ht) G T t e k) ∧ Hid (Blk wr w.heap.size 44 #[.int .i64 t, .int .i64 G, .string os, .int .i64 ht]) ∧ Hid (Ext w wr)) (fun _ ri _ => n - (intOf ri).toNat)
      case atStart => exact ⟨0, t, by omega, rfl, rfl, hide (InR.start HT.out.2.1 htb.2), HB, HX⟩
      case round =>
        obtain ⟨k, e, hk, rfl, rfl, HI, HB2, HX2⟩ := hrel
        by_cases hlt : k < n
        rotate_left
        · have hkl : k = L.length := by have := HLN.out; omega
          have HKL := hide hkl
          clear hkl
          have v0 := HB2.out.cell 0
          have f0 := HB2.out.frozen 0
          have zl := HB2.out.lt
          by_cases het : e = t
          · have HE : Hid (EndI (whoV us p os ht) (lvs L) G T t) := hide ⟨HT.out.2.1, lvs_all (fun j hj => HI.out.2.2.1 het j (by have := HKL.out; omega))⟩
            have hb3 : (e == t) = true := by simpa using het
            subst het
            go_wp2_with fail
            go_ret2
            exact ⟨_, rfl, HEND.out _ _ HX2.out HT.out.1 HE.out⟩
          · have hb3 : (e == t) = false := by simpa using het
            have hlo := HI.out.2.2.2 het
            have hbd := HI.out.1
            have HQ : Hid ((T ≤ e ∧ e ≤ 1000000000000000) ∧ CovI (whoV us p os ht) (lvs L) G T e ∧ afterN (lvs L) G e + (r + 1) ≤ n) := hide ⟨by omega, HI.out.2.1, by have := HT.out.2.2; omega⟩
            have hr1 : r + 1 ≤ n := by have := HQ.out.2.2; omega
            clear het hlo hbd
            go_upto_region 20 with (fail)
            refine gen_wp4 fun w6 h6 => ?_
            have E6 := hide (show Ext w w6 from by have ew := HX2.out; rw [h6]; exact (by repeat' (first | (with_reducible exact Below.refl _ _) | (with_reducible assumption) | (with_reducible refine below_drewN ?_ _) | (with_reducible refine Below.drew ?_) | (with_reducible refine ext_alloc ?_ _) | (with_reducible refine Below.setCell ?_ ?_ _) | go_size)))
            have B6 := hide (show Blk w6 w.heap.size 44 #[.int .i64 e, .int .i64 G, .string os, .int .i64 ht] from by rw [h6]; exact HB2.out.set_ 0 _)
            clear h6 v0 f0 zl
            go_wp2_with fail
            go_roundw
            case rel => exact ⟨r + 1, e, hr1, by go_num, HQ, B6, E6⟩
            case measure => simp [intOf]; omega
        have hkl : k < L.length := by have := HLN.out; omega
        have HW := hide (H.out.ext HX2.out)
        obtain ⟨bb, off, rfl, _⟩ := H.out.addr (by omega)
        have a0 := HW.out.cellK hlt d0L 0 _ rfl
        have a1 := HW.out.cellK hlt d0L 1 _ rfl
        have a2 := HW.out.cellK hlt d0L 2 _ rfl
        have a3 := HW.out.cellK hlt d0L 3 _ rfl
        have a4 := HW.out.cellK hlt d0L 4 _ rfl
        have a5 := HW.out.cellK hlt d0L 5 _ rfl
        have a6 := HW.out.cellK hlt d0L 6 _ rfl
        have a7 := HW.out.cellK hlt d0L 7 _ rfl
        simp only [Nat.add_zero] at a0
        have hup := HOK.out _ (getD_mem L k d0L hkl)
        have HP := hide (fun (W : World) (hW : Ext w W) => HPE.out W hW k hkl t G (by omega))
        have HSK := hide (fun hp => HI.out.skip (k := k) hp)
        have HTK := hide (fun hp => HI.out.take HT.out.2.1 hkl (by omega) hup.2.1 hup.1.2 hp)
        have hbd := HI.out.1
        clear hkl
        have HST : Hid (stopI G (L.getD k d0L).1 = if 0 < (L.getD k d0L).1.long then min (L.getD k d0L).1.upto (G + (L.getD k d0L).1.long) else (L.getD k d0L).1.upto) := hide rfl
        generalize L.getD k d0L = x at *
        obtain ⟨⟨u, i, pf, pt, f, t1, g, O⟩, A', n', c'⟩ := x
        simp only at a0 a1 a2 a3 a4 a5 a6 a7 HP HSK HTK HST hup
        obtain ⟨⟨u1, u2⟩, u3, u4⟩ := hup
        have x0 := (HB2.out.alloc (.cells #[.string u, .string i, .int .i64 pf, .int .i64 pt, .int .i64 f, .int .i64 t1, .int .i64 g, .slice A' n' c'] 74)).cell 0
        have x1 := (HB2.out.alloc (.cells #[.string u, .string i, .int .i64 pf, .int .i64 pt, .int .i64 f, .int .i64 t1, .int .i64 g, .slice A' n' c'] 74)).cell 1
        have x2 := (HB2.out.alloc (.cells #[.string u, .string i, .int .i64 pf, .int .i64 pt, .int .i64 f, .int .i64 t1, .int .i64 g, .slice A' n' c'] 74)).cell 2
        have x3 := (HB2.out.alloc (.cells #[.string u, .string i, .int .i64 pf, .int .i64 pt, .int .i64 f, .int .i64 t1, .int .i64 g, .slice A' n' c'] 74)).cell 3
        cases hp : permB (whoV us p os ht) G t (⟨u, i, pf, pt, f, t1, g, O⟩ : LicV) with
        | false =>
          have HI2 := hide (HSK.out hp)
          rw [hp] at HP
          clear hp
          go_wp2_with fail
          refine (HP.out _ (Ext.trans HX2.out (by repeat' (first | (with_reducible exact Below.refl _ _) | (with_reducible assumption) | (with_reducible refine below_drewN ?_ _) | (with_reducible refine Below.drew ?_) | (with_reducible refine ext_alloc ?_ _) | (with_reducible refine Below.setCell ?_ ?_ _) | go_size)))).mono ?_
          rintro e' w5 ⟨rfl, e5⟩
          have E5 := hide (Ext.trans (Ext.trans HX2.out (by repeat' (first | (with_reducible exact Below.refl _ _) | (with_reducible assumption) | (with_reducible refine below_drewN ?_ _) | (with_reducible refine Below.drew ?_) | (with_reducible refine ext_alloc ?_ _) | (with_reducible refine Below.setCell ?_ ?_ _) | go_size))) e5)
          have B5 := hide ((HB2.out.alloc (.cells #[.string u, .string i, .int .i64 pf, .int .i64 pt, .int .i64 f, .int .i64 t1, .int .i64 g, .slice A' n' c'] 74)).ext e5)
          clear e5
          go_wp2_with fail
          go_roundw
          case rel =>
            first
              | exact ⟨k + 1, e, by omega, by go_num, rfl, HI2, B5, E5⟩
              | ((repeat apply Exists.intro); exact ⟨⟨k + 1, e, by omega, by go_num, rfl, HI2, B5, E5⟩, rfl⟩)
          case measure => simp [intOf]; omega
        | true =>
          have HI2 := hide (HTK.out hp)
          rw [hp] at HP
          clear hp
          go_wp2_with fail
          refine (HP.out _ (Ext.trans HX2.out (by repeat' (first | (with_reducible exact Below.refl _ _) | (with_reducible assumption) | (with_reducible refine below_drewN ?_ _) | (with_reducible refine Below.drew ?_) | (with_reducible refine ext_alloc ?_ _) | (with_reducible refine Below.setCell ?_ ?_ _) | go_size)))).mono ?_
          rintro e' w5 ⟨rfl, e5⟩
          have E5 := hide (Ext.trans (Ext.trans HX2.out (by repeat' (first | (with_reducible exact Below.refl _ _) | (with_reducible assumption) | (with_reducible refine below_drewN ?_ _) | (with_reducible refine Below.drew ?_) | (with_reducible refine ext_alloc ?_ _) | (with_reducible refine Below.setCell ?_ ?_ _) | go_size))) e5)
          have B5 := hide ((HB2.out.alloc (.cells #[.string u, .string i, .int .i64 pf, .int .i64 pt, .int .i64 f, .int .i64 t1, .int .i64 g, .slice A' n' c'] 74)).ext e5)
          have l5 := (Blk.new wr 74 #[.string u, .string i, .int .i64 pf, .int .i64 pt, .int .i64 f, .int .i64 t1, .int .i64 g, .slice A' n' c']).ext e5
          have y5 := l5.cell 5
          have y6 := l5.cell 6
          have v1 := B5.out.cell 1
          clear e5 l5 x0 x1 x2 x3
          by_cases hgp : 0 < g
          · have HS2 : Hid (stopI G (⟨u, i, pf, pt, f, t1, g, O⟩ : LicV) = min t1 (G + g)) := hide (by rw [HST.out, if_pos hgp])
            rw [HS2.out] at HI2
            go_wp2_with fail
            go_roundw
            case rel =>
              first
                | exact ⟨k + 1, max e (min t1 (G + g)), by omega, by go_num, rfl, HI2, B5, E5⟩
                | ((repeat apply Exists.intro); exact ⟨⟨k + 1, max e (min t1 (G + g)), by omega, by go_num, rfl, HI2, B5, E5⟩, rfl⟩)
            case measure => simp [intOf]; omega
          · have HS2 : Hid (stopI G (⟨u, i, pf, pt, f, t1, g, O⟩ : LicV) = t1) := hide (by rw [HST.out, if_neg hgp])
            rw [HS2.out] at HI2
            go_wp2_with fail
            go_roundw
            case rel =>
              first
                | exact ⟨k + 1, max e t1, by omega, by go_num, rfl, HI2, B5, E5⟩
                | ((repeat apply Exists.intro); exact ⟨⟨k + 1, max e t1, by omega, by go_num, rfl, HI2, B5, E5⟩, rfl⟩)
            case measure => simp [intOf]; omega
  | false =>
    have hm2 : ¬ F < 0 := of_decide_eq_false hm
    have hfr : frI F T = F := by rw [HFR.out, if_neg hm2]
    have HFQ := hide hfr
    clear hfr
    go_enter Try.func22, Try.ntmps22
    go_wp2_with fail
    refine (HC.out _ (by repeat' (first | (with_reducible exact Below.refl _ _) | (with_reducible assumption) | (with_reducible refine below_drewN ?_ _) | (with_reducible refine Below.drew ?_) | (with_reducible refine ext_alloc ?_ _) | (with_reducible refine Below.setCell ?_ ?_ _) | go_size))).mono ?_
    rintro e w1 ⟨rfl, e1⟩
    have E1 := hide (show Ext w w1 from Ext.trans (by repeat' (first | (with_reducible exact Below.refl _ _) | (with_reducible assumption) | (with_reducible refine below_drewN ?_ _) | (with_reducible refine Below.drew ?_) | (with_reducible refine ext_alloc ?_ _) | (with_reducible refine Below.setCell ?_ ?_ _) | go_size)) e1)
    have b1 := HBX.out.ext e1
    have HB1 := hide b1
    have x0 := b1.cell 0
    have x1 := b1.cell 1
    have x2 := b1.cell 2
    have x3 := b1.cell 3
    have f1 := b1.frozen 1
    have zl := b1.lt
    clear e1 b1
    go_upto_region 6 with (fail)
    refine gen_wp4 fun w2 h2 => ?_
    have E2 := hide (show Ext w w2 from by rw [h2]; exact E1.out)
    have B2 := hide (show Blk w2 w.heap.size 44 #[.int .i64 T, .int .i64 (frI F T), .string os, .int .i64 ht] from by rw [h2, HFQ.out]; exact HB1.out)
    clear h2 x0 x1 x2 x3 f1 zl HB1 E1 hm hm2 HFQ
    generalize frI F T = G at *
    clear HFR
    go_wp2_with fail
    have HAL : Hid (afterN (lvs L) G T + 0 ≤ n) := hide (by
      have h1 := afterN_le (lvs L) G T
      have h2 : (lvs L).length = L.length := by unfold lvs; rw [List.length_map]
      have h3 := HLN.out
      omega)
    go_loopw [32] (fun ri wr => ∃ (r : Nat) (t : Int), r ≤ n ∧ ri = .int .i64 r ∧ Hid ((T ≤ t ∧ t ≤ 1000000000000000) ∧ CovI (whoV us p os ht) (lvs L) G T t ∧ afterN (lvs L) G t + r ≤ n) ∧ Hid (Blk wr w.heap.size 44 #[.int .i64 t, .int .i64 G, .string os, .int .i64 ht]) ∧ Hid (Ext w wr)) (fun ri _ => n + 1 - (intOf ri).toNat)
    case atStart => exact ⟨0, T, by omega, rfl, hide ⟨⟨Int.le_refl _, z32⟩, CovI.refl, HAL.out⟩, B2, E2⟩
    case round =>
      obtain ⟨r, t, hr, rfl, HT, HB, HX⟩ := hrel
      have htb := HT.out.1
      have x0 := HB.out.cell 0
      have i1 : decide ((r : Int) < (n : Int) + 1) = true := by simp; omega
      go_wp2_with fail
      obtain ⟨wo, rfl⟩ : ∃ wo : World, wo = wr := ⟨_, rfl⟩
      clear x0
      go_loopw [11, 38] (fun me ri wr => ∃ (k : Nat) (e : Int), k ≤ n ∧ ri = .int .i64 k ∧ me = .int .i64 e ∧ Hid (InR L (whoV us p os ht) G T t e k) ∧ Hid (Blk wr w.heap.size 44 #[.int .i64 t, .int .i64 G, .string os, .int .i64 ht]) ∧ Hid (Ext w wr)) (fun _ ri _ => n - (intOf ri).toNat)
      case atStart => exact ⟨0, t, by omega, rfl, rfl, hide (InR.start HT.out.2.1 htb.2), HB, HX⟩
      case round =>
        obtain ⟨k, e, hk, rfl, rfl, HI, HB2, HX2⟩ := hrel
        by_cases hlt : k < n
        rotate_left
        · have hkl : k = L.length := by have := HLN.out; omega
          have HKL := hide hkl
          clear hkl
          have v0 := HB2.out.cell 0
          have f0 := HB2.out.frozen 0
          have zl := HB2.out.lt
          by_cases het : e = t
          · have HE : Hid (EndI (whoV us p os ht) (lvs L) G T t) := hide ⟨HT.out.2.1, lvs_all (fun j hj => HI.out.2.2.1 het j (by have := HKL.out; omega))⟩
            have hb3 : (e == t) = true := by simpa using het
            subst het
            go_wp2_with fail
            go_ret2
            exact ⟨_, rfl, HEND.out _ _ HX2.out HT.out.1 HE.out⟩
          · have hb3 : (e == t) = false := by simpa using het
            have hlo := HI.out.2.2.2 het
            have hbd := HI.out.1
            have HQ : Hid ((T ≤ e ∧ e ≤ 1000000000000000) ∧ CovI (whoV us p os ht) (lvs L) G T e ∧ afterN (lvs L) G e + (r + 1) ≤ n) := hide ⟨by omega, HI.out.2.1, by have := HT.out.2.2; omega⟩
            have hr1 : r + 1 ≤ n := by have := HQ.out.2.2; omega
            clear het hlo hbd
            go_upto_region 20 with (fail)
            refine gen_wp4 fun w6 h6 => ?_
            have E6 := hide (show Ext w w6 from by have ew := HX2.out; rw [h6]; exact (by repeat' (first | (with_reducible exact Below.refl _ _) | (with_reducible assumption) | (with_reducible refine below_drewN ?_ _) | (with_reducible refine Below.drew ?_) | (with_reducible refine ext_alloc ?_ _) | (with_reducible refine Below.setCell ?_ ?_ _) | go_size)))
            have B6 := hide (show Blk w6 w.heap.size 44 #[.int .i64 e, .int .i64 G, .string os, .int .i64 ht] from by rw [h6]; exact HB2.out.set_ 0 _)
            clear h6 v0 f0 zl
            go_wp2_with fail
            go_roundw
            case rel => exact ⟨r + 1, e, hr1, by go_num, HQ, B6, E6⟩
            case measure => simp [intOf]; omega
        have hkl : k < L.length := by have := HLN.out; omega
        have HW := hide (H.out.ext HX2.out)
        obtain ⟨bb, off, rfl, _⟩ := H.out.addr (by omega)
        have a0 := HW.out.cellK hlt d0L 0 _ rfl
        have a1 := HW.out.cellK hlt d0L 1 _ rfl
        have a2 := HW.out.cellK hlt d0L 2 _ rfl
        have a3 := HW.out.cellK hlt d0L 3 _ rfl
        have a4 := HW.out.cellK hlt d0L 4 _ rfl
        have a5 := HW.out.cellK hlt d0L 5 _ rfl
        have a6 := HW.out.cellK hlt d0L 6 _ rfl
        have a7 := HW.out.cellK hlt d0L 7 _ rfl
        simp only [Nat.add_zero] at a0
        have hup := HOK.out _ (getD_mem L k d0L hkl)
        have HP := hide (fun (W : World) (hW : Ext w W) => HPE.out W hW k hkl t G (by omega))
        have HSK := hide (fun hp => HI.out.skip (k := k) hp)
        have HTK := hide (fun hp => HI.out.take HT.out.2.1 hkl (by omega) hup.2.1 hup.1.2 hp)
        have hbd := HI.out.1
        clear hkl
        have HST : Hid (stopI G (L.getD k d0L).1 = if 0 < (L.getD k d0L).1.long then min (L.getD k d0L).1.upto (G + (L.getD k d0L).1.long) else (L.getD k d0L).1.upto) := hide rfl
        generalize L.getD k d0L = x at *
        obtain ⟨⟨u, i, pf, pt, f, t1, g, O⟩, A', n', c'⟩ := x
        simp only at a0 a1 a2 a3 a4 a5 a6 a7 HP HSK HTK HST hup
        obtain ⟨⟨u1, u2⟩, u3, u4⟩ := hup
        have x0 := (HB2.out.alloc (.cells #[.string u, .string i, .int .i64 pf, .int .i64 pt, .int .i64 f, .int .i64 t1, .int .i64 g, .slice A' n' c'] 74)).cell 0
        have x1 := (HB2.out.alloc (.cells #[.string u, .string i, .int .i64 pf, .int .i64 pt, .int .i64 f, .int .i64 t1, .int .i64 g, .slice A' n' c'] 74)).cell 1
        have x2 := (HB2.out.alloc (.cells #[.string u, .string i, .int .i64 pf, .int .i64 pt, .int .i64 f, .int .i64 t1, .int .i64 g, .slice A' n' c'] 74)).cell 2
        have x3 := (HB2.out.alloc (.cells #[.string u, .string i, .int .i64 pf, .int .i64 pt, .int .i64 f, .int .i64 t1, .int .i64 g, .slice A' n' c'] 74)).cell 3
        cases hp : permB (whoV us p os ht) G t (⟨u, i, pf, pt, f, t1, g, O⟩ : LicV) with
        | false =>
          have HI2 := hide (HSK.out hp)
          rw [hp] at HP
          clear hp
          go_wp2_with fail
          refine (HP.out _ (Ext.trans HX2.out (by repeat' (first | (with_reducible exact Below.refl _ _) | (with_reducible assumption) | (with_reducible refine below_drewN ?_ _) | (with_reducible refine Below.drew ?_) | (with_reducible refine ext_alloc ?_ _) | (with_reducible refine Below.setCell ?_ ?_ _) | go_size)))).mono ?_
          rintro e' w5 ⟨rfl, e5⟩
          have E5 := hide (Ext.trans (Ext.trans HX2.out (by repeat' (first | (with_reducible exact Below.refl _ _) | (with_reducible assumption) | (with_reducible refine below_drewN ?_ _) | (with_reducible refine Below.drew ?_) | (with_reducible refine ext_alloc ?_ _) | (with_reducible refine Below.setCell ?_ ?_ _) | go_size))) e5)
          have B5 := hide ((HB2.out.alloc (.cells #[.string u, .string i, .int .i64 pf, .int .i64 pt, .int .i64 f, .int .i64 t1, .int .i64 g, .slice A' n' c'] 74)).ext e5)
          clear e5
          go_wp2_with fail
          go_roundw
          case rel =>
            first
              | exact ⟨k + 1, e, by omega, by go_num, rfl, HI2, B5, E5⟩
              | ((repeat apply Exists.intro); exact ⟨⟨k + 1, e, by omega, by go_num, rfl, HI2, B5, E5⟩, rfl⟩)
          case measure => simp [intOf]; omega
        | true =>
          have HI2 := hide (HTK.out hp)
          rw [hp] at HP
          clear hp
          go_wp2_with fail
          refine (HP.out _ (Ext.trans HX2.out (by repeat' (first | (with_reducible exact Below.refl _ _) | (with_reducible assumption) | (with_reducible refine below_drewN ?_ _) | (with_reducible refine Below.drew ?_) | (with_reducible refine ext_alloc ?_ _) | (with_reducible refine Below.setCell ?_ ?_ _) | go_size)))).mono ?_
          rintro e' w5 ⟨rfl, e5⟩
          have E5 := hide (Ext.trans (Ext.trans HX2.out (by repeat' (first | (with_reducible exact Below.refl _ _) | (with_reducible assumption) | (with_reducible refine below_drewN ?_ _) | (with_reducible refine Below.drew ?_) | (with_reducible refine ext_alloc ?_ _) | (with_reducible refine Below.setCell ?_ ?_ _) | go_size))) e5)
          have B5 := hide ((HB2.out.alloc (.cells #[.string u, .string i, .int .i64 pf, .int .i64 pt, .int .i64 f, .int .i64 t1, .int .i64 g, .slice A' n' c'] 74)).ext e5)
          have l5 := (Blk.new wr 74 #[.string u, .string i, .int .i64 pf, .int .i64 pt, .int .i64 f, .int .i64 t1, .int .i64 g, .slice A' n' c']).ext e5
          have y5 := l5.cell 5
          have y6 := l5.cell 6
          have v1 := B5.out.cell 1
          clear e5 l5 x0 x1 x2 x3
          by_cases hgp : 0 < g
          · have HS2 : Hid (stopI G (⟨u, i, pf, pt, f, t1, g, O⟩ : LicV) = min t1 (G + g)) := hide (by rw [HST.out, if_pos hgp])
            rw [HS2.out] at HI2
            go_wp2_with fail
            go_roundw
            case rel =>
              first
                | exact ⟨k + 1, max e (min t1 (G + g)), by omega, by go_num, rfl, HI2, B5, E5⟩
                | ((repeat apply Exists.intro); exact ⟨⟨k + 1, max e (min t1 (G + g)), by omega, by go_num, rfl, HI2, B5, E5⟩, rfl⟩)
            case measure => simp [intOf]; omega
          · have HS2 : Hid (stopI G (⟨u, i, pf, pt, f, t1, g, O⟩ : LicV) = t1) := hide (by rw [HST.out, if_neg hgp])
            rw [HS2.out] at HI2
            go_wp2_with fail
            go_roundw
            case rel =>
              first
                | exact ⟨k + 1, max e t1, by omega, by go_num, rfl, HI2, B5, E5⟩
                | ((repeat apply Exists.intro); exact ⟨⟨k + 1, max e t1, by omega, by go_num, rfl, HI2, B5, E5⟩, rfl⟩)
            case measure => simp [intOf]; omega
end Go.Proofs.Ytfpmjaeehhegcaa
