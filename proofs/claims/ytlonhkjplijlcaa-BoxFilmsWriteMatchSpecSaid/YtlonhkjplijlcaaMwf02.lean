/- Several texts in one: Names: which strings are names, and walks of the functions that ask. No condition but that a string is no longer than a string can be; Films in plain words and in memory: tracks, what is wrong with them, bytes of tracks. No condition; Chunks of tracks laid one after another, in plain words. Plain but for the words of tracks; Words for stores into an owned row of one-cell elements. No condition; make of a slice: its run equation, and that it is an own row of elements alike. Conditions as stated. -/
import Derived.Test.YtlonhkjplijlcaaMwf00
import Derived.Test.YtlonhkjplijlcaaProg
import Derived.Test.YtlonhkjplijlcaaMwf01
import Derived.Laws.OwnMore
import Derived.Laws.MakeOwn
namespace Go.Proofs.Ytlonhkjplijlcaa
open Go.RowKit

/-- A small letter. -/
def letB (c : UInt8) : Bool := decide (97 ≤ (c.toNat : Int) ∧ (c.toNat : Int) ≤ 122)
/-- A digit. -/
def digB (c : UInt8) : Bool := decide (48 ≤ (c.toNat : Int) ∧ (c.toNat : Int) ≤ 57)
def okB (c : UInt8) : Bool := letB c || digB c || decide ((c.toNat : Int) = 45)
/-- A name: a letter, then letters, digits and '-', at most 40. -/
def nameB (s : ByteArray) : Bool := if h : 0 < s.size ∧ s.size ≤ 40 then letB (s[0]'h.1) && (List.range s.size).all (fun k => if hk : k < s.size then okB (s[k]'hk) else true) else false
theorem nameB_no {s : ByteArray} (h : s.size = 0 ∨ 40 < s.size) : nameB s = false := by unfold nameB; rw [dif_neg (by omega)]
theorem nameB_0 {s : ByteArray} (h : 0 < s.size) (hb : letB (s[0]'h) = false) : nameB s = false := by
  unfold nameB
  by_cases h1 : 0 < s.size ∧ s.size ≤ 40
  · rw [dif_pos h1, hb]; rfl
  · rw [dif_neg h1]
theorem nameB_at {s : ByteArray} {k : Nat} (h : k < s.size) (hb : okB (s[k]'h) = false) : nameB s = false := by
  unfold nameB
  by_cases h1 : 0 < s.size ∧ s.size ≤ 40
  · rw [dif_pos h1, Bool.and_eq_false_iff]
    right
    rw [List.all_eq_false]
    exact ⟨k, by simpa using h, by rw [dif_pos h, hb]; simp⟩
  · rw [dif_neg h1]
theorem nameB_yes {s : ByteArray} (h : 0 < s.size) (h1 : s.size ≤ 40) (h0 : letB (s[0]'h) = true) (ha : ∀ k (hk : k < s.size), okB (s[k]'hk) = true) : nameB s = true := by
  unfold nameB
  rw [dif_pos ⟨h, h1⟩, h0, Bool.true_and, List.all_eq_true]
  intro k hk
  rw [dif_pos (by simpa using hk)]
  exact ha k _
theorem letter_any (c : UInt8) (w : World) : Calls Try.prog 95 #[.int .u8 (c.toNat : Int)] w fun e w' => e = .returned (.bool (letB c)) ∧ w = w' := by
  unfold letB
  generalize (c.toNat : Int) = x
  by_cases h1 : 97 ≤ x
  · go_enter Try.func95, Try.ntmps95
    go_wp2
    go_ret
    exact ⟨ret_bool (by simp [h1]), rfl⟩
  · go_enter Try.func95, Try.ntmps95
    go_wp2
    go_ret
    exact ⟨ret_bool (by simp; omega), rfl⟩
theorem digit_any (c : UInt8) (w : World) : Calls Try.prog 96 #[.int .u8 (c.toNat : Int)] w fun e w' => e = .returned (.bool (digB c)) ∧ w = w' := by
  unfold digB
  generalize (c.toNat : Int) = x
  by_cases h1 : 48 ≤ x
  · go_enter Try.func96, Try.ntmps96
    go_wp2
    go_ret
    exact ⟨ret_bool (by simp [h1]), rfl⟩
  · go_enter Try.func96, Try.ntmps96
    go_wp2
    go_ret
    exact ⟨ret_bool (by simp; omega), rfl⟩
set_option maxRecDepth 100000 in
set_option maxHeartbeats 2000000 in
theorem isName_any (s : ByteArray) (hs : s.size ≤ maxLen) (w : World) : Calls Try.prog 66 #[.string s] w fun e w' => e = .returned (.bool (nameB s)) ∧ w = w' := by
  unfold maxLen at hs
  by_cases h0 : s.size = 0
  · have HF := hide (nameB_no (s := s) (.inl h0))
    have e0 : ((s.size : Int) == 0) = true := by simp [h0]
    clear h0
    go_enter Try.func66, Try.ntmps66
    go_wp2_with fail
    go_ret
    exact ⟨ret_bool HF.out.symm, rfl⟩
  have e0 : ((s.size : Int) == 0) = false := by rw [beq_eq_false_iff_ne]; omega
  by_cases h4 : 40 < s.size
  · have HF := hide (nameB_no (s := s) (.inr h4))
    clear h0
    go_enter Try.func66, Try.ntmps66
    go_wp2_with fail
    go_ret
    exact ⟨ret_bool HF.out.symm, rfl⟩
  have hp : 0 < s.size := by omega
  have HL := hide (fun (W : World) => letter_any (s[0]'hp) W)
  cases hb : letB (s[0]'hp) with
  | false =>
    have HF := hide (nameB_0 hp hb)
    rw [hb] at HL
    clear hb h0
    go_enter Try.func66, Try.ntmps66
    go_wp2_with fail
    refine (HL.out _).mono ?_
    rintro e w' ⟨rfl, rfl⟩
    go_wp2_with fail
    go_ret
    exact ⟨ret_bool HF.out.symm, rfl⟩
  | true =>
    have HB := hide hb
    rw [hb] at HL
    clear hb h0
    go_enter Try.func66, Try.ntmps66
    go_wp2_with fail
    refine (HL.out _).mono ?_
    rintro e w' ⟨rfl, rfl⟩
    go_wp2_with fail
    go_loop [20] (fun ri => ∃ k : Nat, k ≤ s.size ∧ ri = .int .i64 k ∧ Hid (∀ j (hj : j < s.size), j < k → okB (s[j]'hj) = true)) (fun ri => s.size - (intOf ri).toNat)
    case atStart => exact ⟨0, by omega, rfl, hide (fun j _ hj => by omega)⟩
    case round =>
      obtain ⟨k, hk, rfl, HA⟩ := hrel
      by_cases hlt : k < s.size
      · have HC := hide (fun (W : World) => letter_any (s[k]'hlt) W)
        have HD := hide (fun (W : World) => digit_any (s[k]'hlt) W)
        have HNo := hide (fun hb => nameB_at (s := s) hlt hb)
        have HN : Hid (okB (s[k]'hlt) = true → ∀ j (hj : j < s.size), j < k + 1 → okB (s[j]'hj) = true) := hide (fun hb j hj h2 => by
          rcases Nat.lt_succ_iff_lt_or_eq.1 h2 with h | h
          · exact HA.out j hj h
          · subst h; exact hb)
        unfold okB at HNo HN
        cases b1 : letB (s[k]'hlt) with
        | true =>
          have HN2 := hide (HN.out (by simp [b1]))
          rw [b1] at HC
          clear b1
          go_wp2_with fail
          refine (HC.out _).mono ?_
          rintro e w' ⟨rfl, rfl⟩
          go_wp2_with fail
          go_round
          case rel => exact ⟨k + 1, by omega, by go_num, HN2⟩
          case measure => simp [intOf]; omega
        | false =>
          cases b2 : digB (s[k]'hlt) with
          | true =>
            have HN2 := hide (HN.out (by simp [b2]))
            rw [b1] at HC
            rw [b2] at HD
            clear b1 b2
            go_wp2_with fail
            refine (HC.out _).mono ?_
            rintro e w' ⟨rfl, rfl⟩
            go_wp2_with fail
            refine (HD.out _).mono ?_
            rintro e w' ⟨rfl, rfl⟩
            go_wp2_with fail
            go_round
            case rel => exact ⟨k + 1, by omega, by go_num, HN2⟩
            case measure => simp [intOf]; omega
          | false =>
            by_cases b3 : ((s[k]'hlt).toNat : Int) = 45
            · have HN2 := hide (HN.out (by simp [b3]))
              have g3 : (((s[k]'hlt).toNat : Int) != 45) = false := by simp [b3]
              rw [b1] at HC
              rw [b2] at HD
              clear b1 b2 b3
              go_wp2_with fail
              refine (HC.out _).mono ?_
              rintro e w' ⟨rfl, rfl⟩
              go_wp2_with fail
              refine (HD.out _).mono ?_
              rintro e w' ⟨rfl, rfl⟩
              go_wp2_with fail
              go_round
              case rel => exact ⟨k + 1, by omega, by go_num, HN2⟩
              case measure => simp [intOf]; omega
            · have HF := hide (HNo.out (by simp [b1, b2, b3]))
              have g3 : (((s[k]'hlt).toNat : Int) != 45) = true := by simp [b3]
              rw [b1] at HC
              rw [b2] at HD
              clear b1 b2 b3
              go_wp2_with fail
              refine (HC.out _).mono ?_
              rintro e w' ⟨rfl, rfl⟩
              go_wp2_with fail
              refine (HD.out _).mono ?_
              rintro e w' ⟨rfl, rfl⟩
              go_wp2_with fail
              go_ret
              exact ⟨ret_bool HF.out.symm, rfl⟩
      · have HF := hide (nameB_yes hp (by omega) HB.out (fun j hj => HA.out j hj (by omega)))
        go_wp2_with fail
        go_ret
        exact ⟨ret_bool HF.out.symm, rfl⟩
end Go.Proofs.Ytlonhkjplijlcaa
namespace Go.Proofs.Ytlonhkjplijlcaa
open Go.RowKit
/-- A track. -/
structure TrkT where
  name : List UInt8
  scale : Int
  smp : List Smp
  ed : List (Int × Int)
deriving Inhabited
/-- The cells of a track. -/
structure TrkH where
  name : List UInt8
  scale : Int
  sA : Option Addr
  sn : Nat
  sc : Nat
  eA : Option Addr
  en : Nat
  ec : Nat
deriving Inhabited
abbrev eTk (x : TrkH) : List Value := [.string ⟨x.name.toArray⟩, .int .i64 x.scale, .slice x.sA x.sn x.sc, .slice x.eA x.en x.ec]
theorem len_eTk (x : TrkH) : (eTk x).length = 4 := rfl
theorem one_eTk (x : TrkH) : ∀ u ∈ eTk x, u.oneCell' = true := by
  intro u hu
  simp at hu
  rcases hu with rfl | rfl | rfl | rfl <;> rfl
def TkOk (w : World) (y : TrkH) (x : TrkT) : Prop := y.name = x.name ∧ y.scale = x.scale ∧ At w 5 eSm y.sA y.sn y.sc x.smp ∧ At w 2 e2 y.eA y.en y.ec x.ed
theorem TkOk.ext {w w' : World} {y : TrkH} {x : TrkT} (he : Ext w w') (h : TkOk w y x) : TkOk w' y x := ⟨h.1, h.2.1, h.2.2.1.ext he, h.2.2.2.ext he⟩
/-- A slice that reads as tracks. -/
structure TksAt (w : World) (A : Option Addr) (n c : Nat) (hs : List TrkH) (l : List TrkT) : Prop where
  at_ : At w 4 eTk A n c hs
  len : l.length = n
  ok : ∀ i, i < n → TkOk w (hs.getD i default) (l.getD i default)
theorem TksAt.ext {w w' : World} {A : Option Addr} {n c : Nat} {hs : List TrkH} {l : List TrkT} (h : TksAt w A n c hs l) (he : Ext w w') : TksAt w' A n c hs l := ⟨h.at_.ext he, h.len, fun i hi => (h.ok i hi).ext he⟩
theorem TksAt.nil (w : World) : TksAt w none 0 0 [] [] := ⟨At.nil _ _ _, rfl, fun _ hi => absurd hi (Nat.not_lt_zero _)⟩
theorem TksAt.upto {w : World} {A : Option Addr} {n c : Nat} {hs : List TrkH} {l : List TrkT} (h : TksAt w A n c hs l) {k : Nat} (hk : k ≤ n) : TksAt w A k c (hs.take k) (l.take k) := by
  refine ⟨h.at_.upto hk, by rw [List.length_take, h.len]; omega, fun i hi => ?_⟩
  have := h.ok i (by omega)
  simp only [List.getD_eq_getElem?_getD, List.getElem?_take, hi, if_true] at this ⊢
  exact this
/-- The cells of bytes within a slice. -/
abbrev eB1 (h : Option Addr × Nat × Nat) : List Value := [.slice h.1 h.2.1 h.2.2]
theorem len_eB1 (x : Option Addr × Nat × Nat) : (eB1 x).length = 1 := rfl
theorem one_eB1 (x : Option Addr × Nat × Nat) : ∀ u ∈ eB1 x, u.oneCell' = true := by intro u hu; simp at hu; subst hu; rfl
/-- A slice that reads as rows of bytes. -/
structure DtsAt (w : World) (A : Option Addr) (n c : Nat) (hs : List (Option Addr × Nat × Nat)) (l : List (List UInt8)) : Prop where
  at_ : At w 1 eB1 A n c hs
  len : l.length = n
  ok : ∀ i, i < n → At w 1 e8 (hs.getD i (none, 0, 0)).1 (hs.getD i (none, 0, 0)).2.1 (hs.getD i (none, 0, 0)).2.2 (l.getD i [])
theorem DtsAt.ext {w w' : World} {A : Option Addr} {n c : Nat} {hs : List (Option Addr × Nat × Nat)} {l : List (List UInt8)} (h : DtsAt w A n c hs l) (he : Ext w w') : DtsAt w' A n c hs l := ⟨h.at_.ext he, h.len, fun i hi => (h.ok i hi).ext he⟩
/-! ### What is wrong with a film -/
def badSc (n : Int) : Bool := decide (n < 1 ∨ 1000000000 < n)
def badE (x : Int × Int) : Bool := decide (x.1 < 1 ∨ 1000000000000000 < x.1) || decide (x.2 < -1 ∨ 1000000000000000 < x.2)
/-- The lengths of edits, together. -/
def sumE : List (Int × Int) → Int
  | [] => 0
  | x :: r => x.1 + sumE r
theorem sumE_app : ∀ a b : List (Int × Int), sumE (a ++ b) = sumE a + sumE b
  | [], b => by simp [sumE]
  | x :: a, b => by rw [List.cons_append, sumE, sumE, sumE_app a b]; omega
theorem sumE_take {l : List (Int × Int)} {k : Nat} (h : k < l.length) : sumE (l.take (k + 1)) = sumE (l.take k) + (l.getD k (0, 0)).1 := by
  rw [List.take_succ_eq_append_getElem h, sumE_app]
  simp [sumE, List.getD, h]
def edF (l : List (Int × Int)) : Int := if l.any badE = true then 1 else if 1000000000000000 < sumE l then 1 else 0
/-- The fault of a track behind others. -/
def trF (x : TrkT) (before : List TrkT) : Int :=
  if nameB ⟨x.name.toArray⟩ = false then 5
  else if before.any (fun y => y.name == x.name) = true then 7
  else if badSc x.scale = true then 1
  else if smpF x.smp ≠ 0 then smpF x.smp
  else if 50 < x.ed.length then 2
  else edF x.ed
/-- The fault of a film. -/
def filF (sc : Int) (l : List TrkT) : Int :=
  if badSc sc = true then 1 else if 8 < l.length then 2 else firstF (fun i => trF (l.getD i default) (l.take i)) l.length
theorem edF_bad {l : List (Int × Int)} {k : Nat} (hk : k < l.length) (h : badE (l.getD k (0, 0)) = true) : edF l = 1 := by
  unfold edF
  rw [if_pos]
  rw [List.any_eq_true]
  refine ⟨l.getD k (0, 0), ?_, h⟩
  rw [List.getD_eq_getElem?_getD, List.getElem?_eq_getElem hk, Option.getD_some]
  exact List.getElem_mem hk
theorem edF_good {l : List (Int × Int)} (h : ∀ k, k < l.length → badE (l.getD k (0, 0)) = false) : edF l = if 1000000000000000 < sumE l then 1 else 0 := by
  unfold edF
  rw [if_neg]
  rw [List.any_eq_true]
  rintro ⟨x, hx, hb⟩
  obtain ⟨k, hk, rfl⟩ := List.getElem_of_mem hx
  have := h k hk
  rw [List.getD_eq_getElem?_getD, List.getElem?_eq_getElem hk, Option.getD_some, hb] at this
  cases this
theorem badE_ok {x : Int × Int} (h : badE x = false) : (1 ≤ x.1 ∧ x.1 ≤ 1000000000000000) ∧ (-1 ≤ x.2 ∧ x.2 ≤ 1000000000000000) := by
  unfold badE at h
  simp only [Bool.or_eq_false_iff, decide_eq_false_iff_not] at h
  omega
theorem sumE_bd {l : List (Int × Int)} (h : ∀ k, k < l.length → badE (l.getD k (0, 0)) = false) : ∀ k, k ≤ l.length → 0 ≤ sumE (l.take k) ∧ sumE (l.take k) ≤ 1000000000000000 * k
  | 0, _ => by simp [sumE]
  | k + 1, hk => by
    have ih := sumE_bd h k (by omega)
    have h1 := badE_ok (h k (by omega))
    rw [sumE_take (by omega)]
    omega
theorem twice_yes {l : List TrkT} {n : List UInt8} {k : Nat} (hk : k < l.length) (h : (l.getD k default).name = n) : l.any (fun y => y.name == n) = true := by
  rw [List.any_eq_true]
  refine ⟨l.getD k default, ?_, by rw [h]; simp⟩
  rw [List.getD_eq_getElem?_getD, List.getElem?_eq_getElem hk, Option.getD_some]
  exact List.getElem_mem hk
theorem twice_no {l : List TrkT} {n : List UInt8} (h : ∀ k, k < l.length → (l.getD k default).name ≠ n) : l.any (fun y => y.name == n) = false := by
  rw [List.any_eq_false]
  intro x hx
  obtain ⟨k, hk, rfl⟩ := List.getElem_of_mem hx
  have := h k hk
  rw [List.getD_eq_getElem?_getD, List.getElem?_eq_getElem hk, Option.getD_some] at this
  simpa using this
/-- A right film. -/
structure FilOk (sc : Int) (l : List TrkT) : Prop where
  scale : 1 ≤ sc ∧ sc ≤ 1000000000
  few : l.length ≤ 8
  tracks : ∀ i, i < l.length → trF (l.getD i default) (l.take i) = 0
theorem filF_ok {sc : Int} {l : List TrkT} (h : filF sc l = 0) : FilOk sc l := by
  unfold filF at h
  cases hb : badSc sc with
  | true => rw [hb, if_pos rfl] at h; omega
  | false =>
    rw [hb, if_neg (by simp)] at h
    by_cases h8 : 8 < l.length
    · rw [if_pos h8] at h; omega
    rw [if_neg h8] at h
    unfold badSc at hb
    rw [decide_eq_false_iff_not] at hb
    exact ⟨by omega, by omega, firstF_all h⟩
theorem trF_ok {x : TrkT} {l : List TrkT} (h : trF x l = 0) : nameB ⟨x.name.toArray⟩ = true ∧ (1 ≤ x.scale ∧ x.scale ≤ 1000000000) ∧ smpF x.smp = 0 ∧ x.ed.length ≤ 50 ∧ edF x.ed = 0 := by
  unfold trF at h
  cases hn : nameB ⟨x.name.toArray⟩ with
  | false => rw [hn, if_pos rfl] at h; omega
  | true =>
    rw [hn, if_neg (by simp)] at h
    split at h
    · omega
    · split at h
      · omega
      · rename_i hs
        unfold badSc at hs
        simp only [decide_eq_true_eq] at hs
        split at h
        · exact absurd h (by assumption)
        · split at h
          · omega
          · exact ⟨rfl, by omega, by omega, by omega, h⟩
end Go.Proofs.Ytlonhkjplijlcaa
namespace Go.Proofs.Ytlonhkjplijlcaa
/-- How many bytes samples have. -/
def szN : List Smp → Nat
  | [] => 0
  | x :: r => x.size.toNat + szN r
theorem szN_app : ∀ a b : List Smp, szN (a ++ b) = szN a + szN b
  | [], b => by simp [szN]
  | x :: a, b => by rw [List.cons_append, szN, szN, szN_app a b]; omega
theorem szN_take {l : List Smp} {k : Nat} (h : k < l.length) : szN (l.take (k + 1)) = szN (l.take k) + (l.getD k dS).size.toNat := by
  rw [List.take_succ_eq_append_getElem h, szN_app]
  simp [szN, List.getD, h]
theorem szN_le (l : List Smp) (k : Nat) : szN (l.take k) ≤ szN l := by
  conv => rhs; rw [← List.take_append_drop k l, szN_app]
  omega
theorem szN_mono (l : List Smp) {j k : Nat} (h : j ≤ k) : szN (l.take j) ≤ szN (l.take k) := by
  have := szN_le (l.take k) j
  rwa [List.take_take, Nat.min_eq_left h] at this
/-- Sizes that are right. -/
def szOk (l : List Smp) : Prop := ∀ k, k < l.length → 0 ≤ (l.getD k dS).size ∧ (l.getD k dS).size ≤ 100000
theorem szOk_of {l : List Smp} (h : smpF l = 0) : szOk l := fun k hk => (badS_ok (smpEl_zero ((smpF_zero h).2.1 k hk)).1).2.2.2
theorem szN_few {l : List Smp} (h : szOk l) {a b : Nat} (hab : a ≤ b) (hb : b ≤ l.length) : szN (l.take b) ≤ szN (l.take a) + 100000 * (b - a) := by
  induction b with
  | zero =>
    have : a = 0 := by omega
    subst this; simp
  | succ b ih =>
    by_cases he : a = b + 1
    · subst he; simp
    · have h1 := ih (by omega) (by omega)
      have h2 := h b (by omega)
      rw [szN_take (by omega)]
      have h3 : b + 1 - a = (b - a) + 1 := by omega
      rw [h3, Nat.mul_add]
      omega
/-- Places of chunks of each track, and all bytes. -/
structure LayS where
  pl : List (List Int)
  out : List UInt8
def pcB (b : List UInt8) (i j : Nat) : List UInt8 := (b.drop i).take (j - i)
theorem pcB_len {b : List UInt8} {i j : Nat} (h : i ≤ j) (hj : j ≤ b.length) : (pcB b i j).length = j - i := by unfold pcB; rw [List.length_take, List.length_drop]; omega
/-- Chunk number n of track i is laid. -/
def layI (T : List TrkT) (D : List (List UInt8)) (ch from_ n i : Nat) (s : LayS) : LayS :=
  if (T.getD i default).smp.length ≤ n * ch then s
  else ⟨s.pl.set i (s.pl.getD i [] ++ [((from_ + s.out.length : Nat) : Int)]), s.out ++ pcB (D.getD i []) (szN ((T.getD i default).smp.take (n * ch))) (szN ((T.getD i default).smp.take (min (n * ch + ch) (T.getD i default).smp.length)))⟩
/-- So many tracks of a round. -/
def layK (T : List TrkT) (D : List (List UInt8)) (ch from_ n : Nat) (s : LayS) : Nat → LayS
  | 0 => s
  | i + 1 => layI T D ch from_ n i (layK T D ch from_ n s i)
/-- So many rounds. -/
def layR (T : List TrkT) (D : List (List UInt8)) (ch from_ : Nat) : Nat → LayS
  | 0 => ⟨List.replicate T.length [], []⟩
  | n + 1 => layK T D ch from_ n (layR T D ch from_ n) T.length
/-- All of them. -/
def roundsN : Nat := 5001
def layF (T : List TrkT) (D : List (List UInt8)) (ch from_ : Nat) : LayS := layR T D ch from_ roundsN
section
variable {T : List TrkT} {D : List (List UInt8)} {ch from_ : Nat}
theorem layK_still {n : Nat} {s : LayS} (h : ∀ i, i < T.length → (T.getD i default).smp.length ≤ n * ch) : ∀ k, k ≤ T.length → layK T D ch from_ n s k = s
  | 0, _ => rfl
  | k + 1, hk => by rw [layK, layK_still h k (by omega), layI, if_pos (h k (by omega))]
theorem layR_still {n : Nat} (h : ∀ i, i < T.length → (T.getD i default).smp.length ≤ n * ch) : ∀ j, layR T D ch from_ (n + j) = layR T D ch from_ n
  | 0 => rfl
  | j + 1 => by
    rw [show n + (j + 1) = (n + j) + 1 by omega, layR, layR_still h j]
    exact layK_still (fun i hi => Nat.le_trans (h i hi) (Nat.mul_le_mul_right _ (by omega))) _ (Nat.le_refl _)
theorem layF_at {n : Nat} (h : ∀ i, i < T.length → (T.getD i default).smp.length ≤ n * ch) (hn : n ≤ 5001) : layF T D ch from_ = layR T D ch from_ n := by
  obtain ⟨j, hj⟩ : ∃ j, roundsN = n + j := ⟨5001 - n, by unfold roundsN; omega⟩
  unfold layF
  rw [hj]
  exact layR_still h j
theorem layI_len {n i : Nat} {s : LayS} : (layI T D ch from_ n i s).pl.length = s.pl.length := by
  unfold layI; split
  · rfl
  · exact List.length_set
theorem layK_len {n : Nat} {s : LayS} : ∀ k, (layK T D ch from_ n s k).pl.length = s.pl.length
  | 0 => rfl
  | k + 1 => by rw [layK, layI_len, layK_len k]
theorem layR_len : ∀ n, (layR T D ch from_ n).pl.length = T.length
  | 0 => List.length_replicate
  | n + 1 => by rw [layR, layK_len, layR_len n]
set_option maxRecDepth 100000 in
/-- How much a chunk adds. -/
theorem layI_out {n i : Nat} {s : LayS} (hs : szOk (T.getD i default).smp) (hc : ch ≤ 1000) : (layI T D ch from_ n i s).out.length ≤ s.out.length + 100000000 := by
  unfold layI; split
  · omega
  · rename_i h
    simp only [List.length_append]
    have h1 : (pcB (D.getD i []) (szN ((T.getD i default).smp.take (n * ch))) (szN ((T.getD i default).smp.take (min (n * ch + ch) (T.getD i default).smp.length)))).length ≤ 100000000 := by
      unfold pcB
      rw [List.length_take]
      have h2 := szN_few hs (a := n * ch) (b := min (n * ch + ch) (T.getD i default).smp.length) (by omega) (by omega)
      have h3 : 100000 * (min (n * ch + ch) (T.getD i default).smp.length - n * ch) ≤ 100000 * 1000 := Nat.mul_le_mul_left _ (by omega)
      omega
    omega
set_option maxRecDepth 100000 in
theorem layK_out {n : Nat} {s : LayS} (hs : ∀ i, i < T.length → szOk (T.getD i default).smp) (hc : ch ≤ 1000) : ∀ k, k ≤ T.length → (layK T D ch from_ n s k).out.length ≤ s.out.length + 100000000 * k
  | 0, _ => by simp [layK]
  | k + 1, hk => by
    have h1 := layK_out (n := n) (s := s) hs hc k (by omega)
    have h2 := layI_out (D := D) (from_ := from_) (n := n) (s := layK T D ch from_ n s k) (hs k (by omega)) hc
    rw [layK]
    refine Nat.le_trans h2 ?_
    rw [Nat.mul_succ, ← Nat.add_assoc]
    exact Nat.add_le_add_right h1 _
set_option maxRecDepth 100000 in
theorem layR_out (hs : ∀ i, i < T.length → szOk (T.getD i default).smp) (hc : ch ≤ 1000) (h8 : T.length ≤ 8) : ∀ n, (layR T D ch from_ n).out.length ≤ 800000000 * n
  | 0 => by simp [layR]
  | n + 1 => by
    have h1 := layR_out hs hc h8 n
    have h2 := layK_out (D := D) (from_ := from_) (n := n) (s := layR T D ch from_ n) hs hc T.length (Nat.le_refl _)
    rw [layR, Nat.mul_succ]
    have h3 : 100000000 * T.length ≤ 800000000 := Nat.le_trans (Nat.mul_le_mul_left _ h8) (by decide)
    exact Nat.le_trans h2 (Nat.add_le_add h1 h3)
/-- How many places a track has. -/
theorem layI_few {n i j : Nat} {s : LayS} (h5 : (T.getD i default).smp.length ≤ 5000) (hc : 1 ≤ ch) (hp : (s.pl.getD j []).length ≤ 5000) (hn : i = j → (s.pl.getD j []).length ≤ n) : ((layI T D ch from_ n i s).pl.getD j []).length ≤ 5000 ∧ ((layI T D ch from_ n i s).pl.getD j []).length ≤ (s.pl.getD j []).length + (if i = j then 1 else 0) := by
  unfold layI; split
  · exact ⟨hp, by omega⟩
  · rename_i h
    simp only [List.getD_eq_getElem?_getD, List.getElem?_set]
    by_cases hij : i = j
    · subst hij
      have h1 : n < 5000 := by
        have : n * 1 ≤ n * ch := Nat.mul_le_mul_left _ hc
        omega
      have hn2 := hn rfl
      simp only [List.getD_eq_getElem?_getD] at hn2
      by_cases hl : i < s.pl.length
      · simp [hl] at hn2 ⊢
        omega
      · simp [hl]
    · simp only [hij, if_false]
      simp only [List.getD_eq_getElem?_getD] at hp
      exact ⟨hp, by omega⟩
theorem layK_few {n : Nat} {s : LayS} (h5 : ∀ i, i < T.length → (T.getD i default).smp.length ≤ 5000) (hc : 1 ≤ ch) (hp : ∀ j, (s.pl.getD j []).length ≤ 5000 ∧ (s.pl.getD j []).length ≤ n) : ∀ k, k ≤ T.length → ∀ j, ((layK T D ch from_ n s k).pl.getD j []).length ≤ 5000 ∧ ((layK T D ch from_ n s k).pl.getD j []).length ≤ n + (if j < k then 1 else 0)
  | 0, _, j => by rw [layK]; exact ⟨(hp j).1, by have := (hp j).2; omega⟩
  | k + 1, hk, j => by
    have ih := layK_few h5 hc hp k (by omega) j
    have h1 := layI_few (D := D) (from_ := from_) (n := n) (i := k) (j := j) (s := layK T D ch from_ n s k) (h5 k (by omega)) hc ih.1 (fun e => by have := ih.2; rw [if_neg (by omega)] at this; omega)
    rw [layK]
    refine ⟨h1.1, ?_⟩
    have h2 := h1.2
    have h3 := ih.2
    by_cases hkj : k = j
    · subst hkj
      rw [if_pos rfl] at h2
      rw [if_neg (by omega)] at h3
      rw [if_pos (by omega)]
      omega
    · rw [if_neg hkj] at h2
      by_cases hlt : j < k
      · rw [if_pos hlt] at h3; rw [if_pos (by omega)]; omega
      · rw [if_neg hlt] at h3; rw [if_neg (by omega)]; omega
theorem layR_few (h5 : ∀ i, i < T.length → (T.getD i default).smp.length ≤ 5000) (hc : 1 ≤ ch) : ∀ n j, ((layR T D ch from_ n).pl.getD j []).length ≤ 5000 ∧ ((layR T D ch from_ n).pl.getD j []).length ≤ n
  | 0, j => by
    have : ((layR T D ch from_ 0).pl.getD j []) = [] := by
      rw [layR]
      simp only [List.getD_eq_getElem?_getD, List.getElem?_replicate]
      split <;> rfl
    rw [this]; simp
  | n + 1, j => by
    have h1 := layK_few (D := D) (from_ := from_) (n := n) h5 hc (layR_few h5 hc n) T.length (Nat.le_refl _) j
    rw [layR]
    refine ⟨h1.1, ?_⟩
    have h2 := h1.2
    split at h2 <;> omega
end
end Go.Proofs.Ytlonhkjplijlcaa
namespace Go.Proofs.Ytlonhkjplijlcaa
open Go.RowKit

theorem Own.where_ {α : Type} {w : World} {base : Nat} {t : TypeId} {sz : Nat} {enc : α → List Value} {A : Option Addr} {n c : Nat} {xs : List α} (h : Own w base t sz enc (.slice A n c) xs) (hn : 0 < n) (hl : xs.length = n) :
    ∃ g, A = some ⟨g, 0, none⟩ ∧ base ≤ g ∧ g < w.heap.size := by
  unfold Own at h
  rw [hl] at h
  obtain ⟨g, cap, hv, hb, hg⟩ := World.ownsRow.form h hn
  injection hv with h1 h2 h3
  exact ⟨g, h1, hb, hg⟩
theorem Own.row1 {α : Type} {w : World} {base : Nat} {t : TypeId} {enc : α → List Value} {g n c : Nat} {xs : List α} (h : Own w base t 1 enc (.slice (some ⟨g, 0, none⟩) n c) xs) :
    ∃ cur, Blk w g t cur ∧ n ≤ c ∧ c ≤ maxLen ∧ cur.size = c ∧ xs.length = n ∧ cur.toList.take n = xs.flatMap enc ∧ base ≤ g := by
  obtain ⟨h0, h⟩ := h
  rcases h with ⟨hv, _⟩ | ⟨g', cap, cur, hv, hb, hg, hnc, hcm, hcs, ht⟩
  · cases hv
  · injection hv with h1 h2 h3
    injection h1 with h1
    injection h1 with h1
    subst h1 h3
    exact ⟨cur, hg, by omega, hcm, by omega, h2.symm, by rw [h2]; rw [← ht, Nat.mul_one], hb⟩
theorem Own.frozen1 {α : Type} {w : World} {base : Nat} {t : TypeId} {enc : α → List Value} {g n c : Nat} {xs : List α} (h : Own w base t 1 enc (.slice (some ⟨g, 0, none⟩) n c) xs) (i : Nat) : w.frozen? ⟨g, i, none⟩ = false := by
  obtain ⟨cur, hg, _⟩ := h.row1
  exact hg.frozen i
theorem flat_set {α : Type} {enc : α → List Value} (hsz : ∀ x, (enc x).length = 1) : ∀ (xs : List α) (k : Nat) (x : α) (u : Value), enc x = [u] → (xs.flatMap enc).set k u = (xs.set k x).flatMap enc
  | [], _, _, _, _ => rfl
  | y :: ys, 0, x, u, hu => by
    have hy := hsz y
    rw [List.set_cons_zero, List.flatMap_cons, List.flatMap_cons, hu]
    match h : enc y, hy with
    | [v], _ => rfl
  | y :: ys, k + 1, x, u, hu => by
    have hy := hsz y
    rw [List.set_cons_succ, List.flatMap_cons, List.flatMap_cons, ← flat_set hsz ys k x u hu]
    match h : enc y, hy with
    | [v], _ => rfl
/-- An element of one cell is stored anew. -/
theorem Own.set1 {α : Type} {w : World} {base : Nat} {t : TypeId} {enc : α → List Value} {g n c : Nat} {xs : List α} (hsz : ∀ x, (enc x).length = 1) (h : Own w base t 1 enc (.slice (some ⟨g, 0, none⟩) n c) xs) (k : Nat) (x : α) (u : Value) (hu : enc x = [u]) :
    Own (w.setCell ⟨g, k, none⟩ u) base t 1 enc (.slice (some ⟨g, 0, none⟩) n c) (xs.set k x) := by
  obtain ⟨cur, hg, hnc, hcm, hcs, hl, ht, hb⟩ := h.row1
  refine ⟨by rw [flat_len hsz], .inr ⟨g, c, _, by rw [List.length_set, hl], hb, hg.set_ k u, by rw [List.length_set, hl]; exact hnc, hcm, by simp [hcs], ?_⟩⟩
  rw [List.length_set, hl, Nat.mul_one, Array.toList_setIfInBounds, List.take_set, ht]
  exact flat_set hsz xs k x u hu
end Go.Proofs.Ytlonhkjplijlcaa
namespace Go.Proofs.Ytlonhkjplijlcaa
open Go.RowKit
theorem made_flat {α : Type} {enc : α → List Value} {z : Array Value} {x : α} {sz : Nat} (hz : enc x = z.toList) (hs : z.size = sz) (h0 : 0 < sz) (m : Nat) : (madeCells z (m * sz)).toList = (List.replicate m x).flatMap enc := by
  subst hs
  apply List.ext_getElem?
  intro i
  have hl : ∀ m, ((List.replicate m x).flatMap enc).length = m * z.size := by
    intro m
    induction m with
    | zero => simp
    | succ m ih => rw [List.replicate_succ, List.flatMap_cons, List.length_append, ih, hz]; simp [Nat.add_mul]; omega
  by_cases hi : i < m * z.size
  · have hq : i / z.size < m := Nat.div_lt_of_lt_mul (by rw [Nat.mul_comm]; exact hi)
    have hr : i % z.size < z.size := Nat.mod_lt _ h0
    have he : i / z.size * z.size + i % z.size = i := by rw [Nat.mul_comm]; exact Nat.div_add_mod i _
    have key : ∀ (m q r : Nat), q < m → r < z.size → ((List.replicate m x).flatMap enc)[q * z.size + r]? = some (z[r]!) := by
      intro m
      induction m with
      | zero => intro q r hq _; omega
      | succ m ih =>
        intro q r hq hr
        rw [List.replicate_succ, List.flatMap_cons]
        have hln : (enc x).length = z.size := by rw [hz]; simp
        cases q with
        | zero =>
          rw [List.getElem?_append_left (by rw [hln]; omega), hz]
          simp [hr]
        | succ q =>
          rw [List.getElem?_append_right (by rw [hln, Nat.add_mul]; omega), hln, show (q + 1) * z.size + r - z.size = q * z.size + r by rw [Nat.add_mul]; omega]
          exact ih q r (by omega) hr
    have := key m (i / z.size) (i % z.size) hq hr
    rw [he] at this
    rw [this]
    unfold madeCells
    simp [hi, hr]
  · rw [List.getElem?_eq_none (by rw [Array.length_toList, size_madeCells]; omega), List.getElem?_eq_none (by rw [hl]; omega)]
theorem made_own {α : Type} {enc : α → List Value} {z : Array Value} {x : α} {sz : Nat} {t : TypeId} (hz : enc x = z.toList) (hs : z.size = sz) (h0 : 0 < sz) (W : World) (base m : Nat) (hb : base ≤ W.heap.size) (hm : m ≤ maxLen) :
    Own (W.alloc (.cells (madeCells z (m * sz)) t)) base t sz enc (.slice (some ⟨W.heap.size, 0, none⟩) m m) (List.replicate m x) := by
  have := World.ownsRow_lit (base := base) (size := sz) (e := t) W (madeCells z (m * sz)) m hb hm (size_madeCells _ _)
  rw [made_flat hz hs h0] at this
  unfold Own
  rw [List.length_replicate]
  exact this
theorem made_run {P : Program} (t e : TypeId) (i : TypeInfo) (z : Value) {sz bytes : Nat} (ht : P.underlying t = some (.slice e)) (hi : P.info? e = some i) (hz : i.zero = some z) (hs : i.size = sz) (hby : i.bytes = bytes) (m : Nat) (h1 : bytes * m ≤ 281474976710656) (h2 : m ≤ 9223372036854775807) :
    ∀ W : World, (Instr.makeSlice t (.int .i64 (m : Int)) (.int .i64 (m : Int))).run P W = .ok (.slice (some ⟨W.heap.size, 0, none⟩) m m) (W.alloc (.cells (madeCells z.cells (m * sz)) e)) := fun W => by
  have := run_make (P := P) W t e i z ht hi hz .i64 .i64 (m : Int) (m : Int) (by omega) (Int.le_refl _) (by rw [hby]; rw [← Int.natCast_mul]; omega) (by omega)
  rw [hs] at this
  simpa using this
end Go.Proofs.Ytlonhkjplijlcaa
