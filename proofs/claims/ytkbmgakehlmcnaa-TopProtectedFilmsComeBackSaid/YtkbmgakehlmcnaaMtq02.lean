/- Several texts in one: Walks: slices.Clone and slices.Equal of samples. Conditions as stated; Names: which strings are names, and walks of the functions that ask. No condition but that a string is no longer than a string can be; Films in plain words and in memory: tracks, what is wrong with them, bytes of tracks. No condition; Walk of the law TopProtectedFilmsComeBack over what its calls give. Conditions as stated; A drawn region whose last operation writes a cell that an elder one loads. Conditions: as stated. -/
import Derived.Test.YtkbmgakehlmcnaaMtq01
import Derived.Test.YtkbmgakehlmcnaaMtq00
import Derived.Test.YtkbmgakehlmcnaaProg
import Derived.Deep.RegionHeld3
import Derived.Deep.DeepCutAuto
namespace Go.Proofs.Ytkbmgakehlmcnaa
open Go.RowKit
theorem Try.info44 : (Try.prog.info? 44).map (fun i => (i.zero, i.size, i.bytes)) = some (some (.agg #[.int .i64 0, .int .i64 0, .int .i64 0, .int .i64 0, .bool false]), 5, 40) := by kernel_rfl
set_option linter.unusedVariables false in
set_option maxRecDepth 100000 in
set_option maxHeartbeats 2000000 in
theorem smpEq_true {A1 A2 : Option Addr} {n1 c1 n2 c2 : Nat} {l : List Smp} {w : World} (h1 : At w 5 eSm A1 n1 c1 l) (h2 : At w 5 eSm A2 n2 c2 l) :
    Calls Try.prog 12 #[.slice A1 n1 c1, .slice A2 n2 c2] w fun e w' => e = .returned (.bool true) ∧ Ext w w' := by
  obtain rfl : n1 = n2 := h1.len.symm.trans h2.len
  have hb := h1.bound
  have H1 := hide h1; have H2 := hide h2
  clear h1 h2
  go_enter Try.func12, Try.ntmps12
  go_wp2_with fail
  go_loopw [13] (fun ri wr => ∃ k : Nat, k ≤ n1 ∧ ri = .int .i64 k ∧ Hid (Ext w wr)) (fun i _ => n1 - (intOf i).toNat)
  case atStart => exact ⟨0, by omega, rfl, hide (Ext.refl _)⟩
  case round =>
    obtain ⟨k, hk, rfl, HX⟩ := hrel
    by_cases hlt : k < n1
    · obtain ⟨b, off, rfl, _⟩ := H1.out.addr (by omega)
      obtain ⟨b2, off2, rfl, _⟩ := H2.out.addr (by omega)
      have hat := H1.out.ext HX.out
      have hbt := H2.out.ext HX.out
      have a0 := hat.cellK hlt dS 0 _ rfl
      have a1 := hat.cellK hlt dS 1 _ rfl
      have a2 := hat.cellK hlt dS 2 _ rfl
      have a3 := hat.cellK hlt dS 3 _ rfl
      have a4 := hat.cellK hlt dS 4 _ rfl
      have d0 := hbt.cellK hlt dS 0 _ rfl
      have d1 := hbt.cellK hlt dS 1 _ rfl
      have d2 := hbt.cellK hlt dS 2 _ rfl
      have d3 := hbt.cellK hlt dS 3 _ rfl
      have d4 := hbt.cellK hlt dS 4 _ rfl
      rw [Nat.add_zero] at a0 d0
      generalize (l.getD k dS).time = y0 at *
      generalize (l.getD k dS).step = y1 at *
      generalize (l.getD k dS).shift = y2 at *
      generalize (l.getD k dS).size = y3 at *
      generalize (l.getD k dS).key = y4 at *
      have i1 : (k : Int) < (n1 : Int) := by omega
      have i0 : (0 : Int) ≤ (k : Int) := by omega
      clear hat hbt
      go_wp2_with fail
      go_quiet (fail)
      go_wp2
      go_roundw
      case rel => exact ⟨k + 1, by omega, by go_num, below_drewN HX.out _⟩
      case measure => simp [intOf]; omega
    · have hkn : k = n1 := by omega
      clear hkn
      go_wp2
      go_ret
      exact ⟨rfl, HX.out⟩
def letB (c : UInt8) : Bool := decide (97 ≤ (c.toNat : Int) ∧ (c.toNat : Int) ≤ 122)
def digB (c : UInt8) : Bool := decide (48 ≤ (c.toNat : Int) ∧ (c.toNat : Int) ≤ 57)
def okB (c : UInt8) : Bool := letB c || digB c || decide ((c.toNat : Int) = 45)
def nameB (s : ByteArray) : Bool := if h : 0 < s.size ∧ s.size ≤ 40 then letB (s[0]'h.1) && (List.range s.size).all (fun k => if hk : k < s.size then okB (s[k]'hk) else true) else false
theorem nameB_no {s : ByteArray} (h : s.size = 0 ∨ 40 < s.size) : nameB s = false := by unfold nameB; rw [dif_neg (by omega)]
theorem nameB_0 {s : ByteArray} (h : 0 < s.size) (hb : letB (s[0]'h) = false) : nameB s = false := by
  unfold nameB
  by_cases h1 : 0 < s.size ∧ s.size ≤ 40
  · rw [dif_pos h1, hb]; rfl
  · rw [dif_neg h1]
theorem nameB_at {s : ByteArray} {k : Nat} (h : k < s.size) (hb : okB (s[k]'h) = false) : nameB s = false := by
  unfold nameB
  by_cases h1 : 0 < s.size ∧ s.size ≤ 40
  · rw [dif_pos h1, Bool.and_eq_false_iff]
    right
    rw [List.all_eq_false]
    exact ⟨k, by simpa using h, by rw [dif_pos h, hb]; simp⟩
  · rw [dif_neg h1]
theorem nameB_yes {s : ByteArray} (h : 0 < s.size) (h1 : s.size ≤ 40) (h0 : letB (s[0]'h) = true) (ha : ∀ k (hk : k < s.size), okB (s[k]'hk) = true) : nameB s = true := by
  unfold nameB
  rw [dif_pos ⟨h, h1⟩, h0, Bool.true_and, List.all_eq_true]
  intro k hk
  rw [dif_pos (by simpa using hk)]
  exact ha k _
theorem letter_any (c : UInt8) (w : World) : Calls Try.prog 83 #[.int .u8 (c.toNat : Int)] w fun e w' => e = .returned (.bool (letB c)) ∧ w = w' := by
  unfold letB
  generalize (c.toNat : Int) = x
  by_cases h1 : 97 ≤ x
  · go_enter Try.func83, Try.ntmps83
    go_wp2
    go_ret
    exact ⟨ret_bool (by simp [h1]), rfl⟩
  · go_enter Try.func83, Try.ntmps83
    go_wp2
    go_ret
    exact ⟨ret_bool (by simp; omega), rfl⟩
theorem digit_any (c : UInt8) (w : World) : Calls Try.prog 84 #[.int .u8 (c.toNat : Int)] w fun e w' => e = .returned (.bool (digB c)) ∧ w = w' := by
  unfold digB
  generalize (c.toNat : Int) = x
  by_cases h1 : 48 ≤ x
  · go_enter Try.func84, Try.ntmps84
    go_wp2
    go_ret
    exact ⟨ret_bool (by simp [h1]), rfl⟩
  · go_enter Try.func84, Try.ntmps84
    go_wp2
    go_ret
    exact ⟨ret_bool (by simp; omega), rfl⟩
set_option maxRecDepth 100000 in
set_option maxHeartbeats 2000000 in
theorem isName_any (s : ByteArray) (hs : s.size ≤ maxLen) (w : World) : Calls Try.prog 68 #[.string s] w fun e w' => e = .returned (.bool (nameB s)) ∧ w = w' := by
  unfold maxLen at hs
  by_cases h0 : s.size = 0
  · have HF := hide (nameB_no (s := s) (.inl h0))
    have e0 : ((s.size : Int) == 0) = true := by simp [h0]
    clear h0
    go_enter Try.func68, Try.ntmps68
    go_wp2_with fail
    go_ret
    exact ⟨ret_bool HF.out.symm, rfl⟩
  have e0 : ((s.size : Int) == 0) = false := by rw [beq_eq_false_iff_ne]; omega
  by_cases h4 : 40 < s.size
  · have HF := hide (nameB_no (s := s) (.inr h4))
    clear h0
    go_enter Try.func68, Try.ntmps68
    go_wp2_with fail
    go_ret
    exact ⟨ret_bool HF.out.symm, rfl⟩
  have hp : 0 < s.size := by omega
  have HL := hide (fun (W : World) => letter_any (s[0]'hp) W)
  cases hb : letB (s[0]'hp) with
  | false =>
    have HF := hide (nameB_0 hp hb)
    rw [hb] at HL
    clear hb h0
    go_enter Try.func68, Try.ntmps68
    go_wp2_with fail
    refine (HL.out _).mono ?_
    rintro e w' ⟨rfl, rfl⟩
    go_wp2_with fail
    go_ret
    exact ⟨ret_bool HF.out.symm, rfl⟩
  | true =>
    have HB := hide hb
    rw [hb] at HL
    clear hb h0
    go_enter Try.func68, Try.ntmps68
    go_wp2_with fail
    refine (HL.out _).mono ?_
    rintro e w' ⟨rfl, rfl⟩
    go_wp2_with fail
    go_loop [20] (fun ri => ∃ k : Nat, k ≤ s.size ∧ ri = .int .i64 k ∧ Hid (∀ j (hj : j < s.size), j < k → okB (s[j]'hj) = true)) (fun ri => s.size - (intOf ri).toNat)
    case atStart => exact ⟨0, by omega, rfl, hide (fun j _ hj => by omega)⟩
    case round =>
      obtain ⟨k, hk, rfl, HA⟩ := hrel
      by_cases hlt : k < s.size
      · have HC := hide (fun (W : World) => letter_any (s[k]'hlt) W)
        have HD := hide (fun (W : World) => digit_any (s[k]'hlt) W)
        have HNo := hide (fun hb => nameB_at (s := s) hlt hb)
        have HN : Hid (okB (s[k]'hlt) = true → ∀ j (hj : j < s.size), j < k + 1 → okB (s[j]'hj) = true) := hide (fun hb j hj h2 => by
          rcases Nat.lt_succ_iff_lt_or_eq.1 h2 with h | h
          · exact HA.out j hj h
          · subst h; exact hb)
        unfold okB at HNo HN
        cases b1 : letB (s[k]'hlt) with
        | true =>
          have HN2 := hide (HN.out (by simp [b1]))
          rw [b1] at HC
          clear b1
          go_wp2_with fail
          refine (HC.out _).mono ?_
          rintro e w' ⟨rfl, rfl⟩
          go_wp2_with fail
          go_round
          case rel => exact ⟨k + 1, by omega, by go_num, HN2⟩
          case measure => simp [intOf]; omega
        | false =>
          cases b2 : digB (s[k]'hlt) with
          | true =>
            have HN2 := hide (HN.out (by simp [b2]))
            rw [b1] at HC
            rw [b2] at HD
            clear b1 b2
            go_wp2_with fail
            refine (HC.out _).mono ?_
            rintro e w' ⟨rfl, rfl⟩
            go_wp2_with fail
            refine (HD.out _).mono ?_
            rintro e w' ⟨rfl, rfl⟩
            go_wp2_with fail
            go_round
            case rel => exact ⟨k + 1, by omega, by go_num, HN2⟩
            case measure => simp [intOf]; omega
          | false =>
            by_cases b3 : ((s[k]'hlt).toNat : Int) = 45
            · have HN2 := hide (HN.out (by simp [b3]))
              have g3 : (((s[k]'hlt).toNat : Int) != 45) = false := by simp [b3]
              rw [b1] at HC
              rw [b2] at HD
              clear b1 b2 b3
              go_wp2_with fail
              refine (HC.out _).mono ?_
              rintro e w' ⟨rfl, rfl⟩
              go_wp2_with fail
              refine (HD.out _).mono ?_
              rintro e w' ⟨rfl, rfl⟩
              go_wp2_with fail
              go_round
              case rel => exact ⟨k + 1, by omega, by go_num, HN2⟩
              case measure => simp [intOf]; omega
            · have HF := hide (HNo.out (by simp [b1, b2, b3]))
              have g3 : (((s[k]'hlt).toNat : Int) != 45) = true := by simp [b3]
              rw [b1] at HC
              rw [b2] at HD
              clear b1 b2 b3
              go_wp2_with fail
              refine (HC.out _).mono ?_
              rintro e w' ⟨rfl, rfl⟩
              go_wp2_with fail
              refine (HD.out _).mono ?_
              rintro e w' ⟨rfl, rfl⟩
              go_wp2_with fail
              go_ret
              exact ⟨ret_bool HF.out.symm, rfl⟩
      · have HF := hide (nameB_yes hp (by omega) HB.out (fun j hj => HA.out j hj (by omega)))
        go_wp2_with fail
        go_ret
        exact ⟨ret_bool HF.out.symm, rfl⟩
structure TrkT where
  name : List UInt8
  scale : Int
  smp : List Smp
  ed : List (Int × Int)
deriving Inhabited
structure TrkH where
  name : List UInt8
  scale : Int
  sA : Option Addr
  sn : Nat
  sc : Nat
  eA : Option Addr
  en : Nat
  ec : Nat
deriving Inhabited
abbrev eTk (x : TrkH) : List Value := [.string ⟨x.name.toArray⟩, .int .i64 x.scale, .slice x.sA x.sn x.sc, .slice x.eA x.en x.ec]
theorem len_eTk (x : TrkH) : (eTk x).length = 4 := rfl
theorem one_eTk (x : TrkH) : ∀ u ∈ eTk x, u.oneCell' = true := by
  intro u hu
  simp at hu
  rcases hu with rfl | rfl | rfl | rfl <;> rfl
def TkOk (w : World) (y : TrkH) (x : TrkT) : Prop := y.name = x.name ∧ y.scale = x.scale ∧ At w 5 eSm y.sA y.sn y.sc x.smp ∧ At w 2 e2 y.eA y.en y.ec x.ed
theorem TkOk.ext {w w' : World} {y : TrkH} {x : TrkT} (he : Ext w w') (h : TkOk w y x) : TkOk w' y x := ⟨h.1, h.2.1, h.2.2.1.ext he, h.2.2.2.ext he⟩
structure TksAt (w : World) (A : Option Addr) (n c : Nat) (hs : List TrkH) (l : List TrkT) : Prop where
  at_ : At w 4 eTk A n c hs
  len : l.length = n
  ok : ∀ i, i < n → TkOk w (hs.getD i default) (l.getD i default)
theorem TksAt.ext {w w' : World} {A : Option Addr} {n c : Nat} {hs : List TrkH} {l : List TrkT} (h : TksAt w A n c hs l) (he : Ext w w') : TksAt w' A n c hs l := ⟨h.at_.ext he, h.len, fun i hi => (h.ok i hi).ext he⟩
theorem TksAt.nil (w : World) : TksAt w none 0 0 [] [] := ⟨At.nil _ _ _, rfl, fun _ hi => absurd hi (Nat.not_lt_zero _)⟩
theorem TksAt.upto {w : World} {A : Option Addr} {n c : Nat} {hs : List TrkH} {l : List TrkT} (h : TksAt w A n c hs l) {k : Nat} (hk : k ≤ n) : TksAt w A k c (hs.take k) (l.take k) := by
  refine ⟨h.at_.upto hk, by rw [List.length_take, h.len]; omega, fun i hi => ?_⟩
  have := h.ok i (by omega)
  simp only [List.getD_eq_getElem?_getD, List.getElem?_take, hi, if_true] at this ⊢
  exact this
abbrev eB1 (h : Option Addr × Nat × Nat) : List Value := [.slice h.1 h.2.1 h.2.2]
theorem len_eB1 (x : Option Addr × Nat × Nat) : (eB1 x).length = 1 := rfl
theorem one_eB1 (x : Option Addr × Nat × Nat) : ∀ u ∈ eB1 x, u.oneCell' = true := by intro u hu; simp at hu; subst hu; rfl
structure DtsAt (w : World) (A : Option Addr) (n c : Nat) (hs : List (Option Addr × Nat × Nat)) (l : List (List UInt8)) : Prop where
  at_ : At w 1 eB1 A n c hs
  len : l.length = n
  ok : ∀ i, i < n → At w 1 e8 (hs.getD i (none, 0, 0)).1 (hs.getD i (none, 0, 0)).2.1 (hs.getD i (none, 0, 0)).2.2 (l.getD i [])
theorem DtsAt.ext {w w' : World} {A : Option Addr} {n c : Nat} {hs : List (Option Addr × Nat × Nat)} {l : List (List UInt8)} (h : DtsAt w A n c hs l) (he : Ext w w') : DtsAt w' A n c hs l := ⟨h.at_.ext he, h.len, fun i hi => (h.ok i hi).ext he⟩
def badSc (n : Int) : Bool := decide (n < 1 ∨ 1000000000 < n)
def badE (x : Int × Int) : Bool := decide (x.1 < 1 ∨ 1000000000000000 < x.1) || decide (x.2 < -1 ∨ 1000000000000000 < x.2)
def sumE : List (Int × Int) → Int
  | [] => 0
  | x :: r => x.1 + sumE r
theorem sumE_app : ∀ a b : List (Int × Int), sumE (a ++ b) = sumE a + sumE b
  | [], b => by simp [sumE]
  | x :: a, b => by rw [List.cons_append, sumE, sumE, sumE_app a b]; omega
theorem sumE_take {l : List (Int × Int)} {k : Nat} (h : k < l.length) : sumE (l.take (k + 1)) = sumE (l.take k) + (l.getD k (0, 0)).1 := by
  rw [List.take_succ_eq_append_getElem h, sumE_app]
  simp [sumE, List.getD, h]
def edF (l : List (Int × Int)) : Int := if l.any badE = true then 1 else if 1000000000000000 < sumE l then 1 else 0
def trF (x : TrkT) (before : List TrkT) : Int :=
  if nameB ⟨x.name.toArray⟩ = false then 5
  else if before.any (fun y => y.name == x.name) = true then 7
  else if badSc x.scale = true then 1
  else if smpF x.smp ≠ 0 then smpF x.smp
  else if 50 < x.ed.length then 2
  else edF x.ed
def filF (sc : Int) (l : List TrkT) : Int :=
  if badSc sc = true then 1 else if 8 < l.length then 2 else firstF (fun i => trF (l.getD i default) (l.take i)) l.length
theorem edF_bad {l : List (Int × Int)} {k : Nat} (hk : k < l.length) (h : badE (l.getD k (0, 0)) = true) : edF l = 1 := by
  unfold edF
  rw [if_pos]
  rw [List.any_eq_true]
  refine ⟨l.getD k (0, 0), ?_, h⟩
  rw [List.getD_eq_getElem?_getD, List.getElem?_eq_getElem hk, Option.getD_some]
  exact List.getElem_mem hk
theorem edF_good {l : List (Int × Int)} (h : ∀ k, k < l.length → badE (l.getD k (0, 0)) = false) : edF l = if 1000000000000000 < sumE l then 1 else 0 := by
  unfold edF
  rw [if_neg]
  rw [List.any_eq_true]
  rintro ⟨x, hx, hb⟩
  obtain ⟨k, hk, rfl⟩ := List.getElem_of_mem hx
  have := h k hk
  rw [List.getD_eq_getElem?_getD, List.getElem?_eq_getElem hk, Option.getD_some, hb] at this
  cases this
theorem badE_ok {x : Int × Int} (h : badE x = false) : (1 ≤ x.1 ∧ x.1 ≤ 1000000000000000) ∧ (-1 ≤ x.2 ∧ x.2 ≤ 1000000000000000) := by
  unfold badE at h
  simp only [Bool.or_eq_false_iff, decide_eq_false_iff_not] at h
  omega
theorem sumE_bd {l : List (Int × Int)} (h : ∀ k, k < l.length → badE (l.getD k (0, 0)) = false) : ∀ k, k ≤ l.length → 0 ≤ sumE (l.take k) ∧ sumE (l.take k) ≤ 1000000000000000 * k
  | 0, _ => by simp [sumE]
  | k + 1, hk => by
    have ih := sumE_bd h k (by omega)
    have h1 := badE_ok (h k (by omega))
    rw [sumE_take (by omega)]
    omega
theorem twice_yes {l : List TrkT} {n : List UInt8} {k : Nat} (hk : k < l.length) (h : (l.getD k default).name = n) : l.any (fun y => y.name == n) = true := by
  rw [List.any_eq_true]
  refine ⟨l.getD k default, ?_, by rw [h]; simp⟩
  rw [List.getD_eq_getElem?_getD, List.getElem?_eq_getElem hk, Option.getD_some]
  exact List.getElem_mem hk
theorem twice_no {l : List TrkT} {n : List UInt8} (h : ∀ k, k < l.length → (l.getD k default).name ≠ n) : l.any (fun y => y.name == n) = false := by
  rw [List.any_eq_false]
  intro x hx
  obtain ⟨k, hk, rfl⟩ := List.getElem_of_mem hx
  have := h k hk
  rw [List.getD_eq_getElem?_getD, List.getElem?_eq_getElem hk, Option.getD_some] at this
  simpa using this
structure FilOk (sc : Int) (l : List TrkT) : Prop where
  scale : 1 ≤ sc ∧ sc ≤ 1000000000
  few : l.length ≤ 8
  tracks : ∀ i, i < l.length → trF (l.getD i default) (l.take i) = 0
theorem filF_ok {sc : Int} {l : List TrkT} (h : filF sc l = 0) : FilOk sc l := by
  unfold filF at h
  cases hb : badSc sc with
  | true => rw [hb, if_pos rfl] at h; omega
  | false =>
    rw [hb, if_neg (by simp)] at h
    by_cases h8 : 8 < l.length
    · rw [if_pos h8] at h; omega
    rw [if_neg h8] at h
    unfold badSc at hb
    rw [decide_eq_false_iff_not] at hb
    exact ⟨by omega, by omega, firstF_all h⟩
theorem trF_ok {x : TrkT} {l : List TrkT} (h : trF x l = 0) : nameB ⟨x.name.toArray⟩ = true ∧ (1 ≤ x.scale ∧ x.scale ≤ 1000000000) ∧ smpF x.smp = 0 ∧ x.ed.length ≤ 50 ∧ edF x.ed = 0 := by
  unfold trF at h
  cases hn : nameB ⟨x.name.toArray⟩ with
  | false => rw [hn, if_pos rfl] at h; omega
  | true =>
    rw [hn, if_neg (by simp)] at h
    split at h
    · omega
    · split at h
      · omega
      · rename_i hs
        unfold badSc at hs
        simp only [decide_eq_true_eq] at hs
        split at h
        · exact absurd h (by assumption)
        · split at h
          · omega
          · exact ⟨rfl, by omega, by omega, by omega, h⟩
set_option maxHeartbeats 1000000 in
theorem bytsEq_true {A1 A2 : Option Addr} {n1 c1 n2 c2 : Nat} {l : List UInt8} {w : World} (h1 : At w 1 e8 A1 n1 c1 l) (h2 : At w 1 e8 A2 n2 c2 l) :
    Calls Try.prog 11 #[.slice A1 n1 c1, .slice A2 n2 c2] w fun e w' => e = .returned (.bool true) ∧ Ext w w' := by
  obtain rfl : n1 = n2 := h1.len.symm.trans h2.len
  have hb := h1.bound
  have H1 := hide h1; have H2 := hide h2
  clear h1 h2
  go_enter Try.func11, Try.ntmps11
  go_wp2_with fail
  go_loopw [13] (fun ri wr => ∃ k : Nat, k ≤ n1 ∧ ri = .int .i64 k ∧ Hid (Ext w wr)) (fun i _ => n1 - (intOf i).toNat)
  case atStart => exact ⟨0, by omega, rfl, hide (Ext.refl _)⟩
  case round =>
    obtain ⟨k, hk, rfl, HX⟩ := hrel
    by_cases hlt : k < n1
    · obtain ⟨b, off, rfl, _⟩ := H1.out.addr (by omega)
      obtain ⟨b2, off2, rfl, _⟩ := H2.out.addr (by omega)
      have a1 := (H1.out.ext HX.out).cellK hlt 0 0 _ rfl
      have a2 := (H2.out.ext HX.out).cellK hlt 0 0 _ rfl
      rw [Nat.mul_one, Nat.add_zero] at a1 a2
      generalize l.getD k 0 = y at *
      generalize (y.toNat : Int) = z at *
      have i1 : (k : Int) < (n1 : Int) := by omega
      have i0 : (0 : Int) ≤ (k : Int) := by omega
      go_wp2_with fail
      go_quiet (fail)
      go_wp2
      go_roundw
      case rel => exact ⟨k + 1, by omega, by go_num, below_drewN HX.out _⟩
      case measure => simp [intOf]; omega
    · have hkn : k = n1 := by omega
      clear hkn
      go_wp2
      go_ret
      exact ⟨rfl, HX.out⟩
theorem sl_to {α : Type} {P : Program} {T elem : TypeId} {sz : Nat} {enc : α → List Value} {A : Option Addr} {n c : Nat} {xs : List α} {w : World} (hu : P.underlying T = some (.slice elem)) (hs : ∀ W, (Go.sizeOf elem).run P W = .ok sz W)
    (h : At w sz enc A n c xs) {m : Nat} (hm : m ≤ n) (j : Int) (hj : j = (m : Int)) (W : World) : (Instr.slice T (.slice A n c) none (some (.int .i64 j)) none).run P W = .ok (.slice A m c) W := by
  subst hj
  have _hle := h.le
  simp [Instr.slice, run_underlying hu, Instr.sliceBounds, Instr.sliceBound, asIntOf, hs, go_sem, show m ≤ c by omega]
def GvB (w : World) (l : List UInt8) (f : Int) (e : Ending) (w' : World) : Prop := ∃ A k c, e = .returned (.tuple #[.slice A k c, .int .i64 f]) ∧ At w' 1 e8 A k c l ∧ Ext w w'
def GvN (w : World) (l : List UInt8) (f : Int) (e : Ending) (w' : World) : Prop := ∃ A k c, e = .returned (.tuple #[.slice A k c, .int .i64 f]) ∧ At w' 1 e8 A k c l ∧ Ext w w' ∧ ∀ x, A = some x → w.heap.size ≤ x.block
theorem At.growN {α : Type} {w w' : World} {sz : Nat} {enc : α → List Value} {A : Option Addr} {n c : Nat} {xs : List α} {row : Option Nat} (h : At w sz enc A n c xs) (hg : w.grownBy w' row) (hr : 0 < n → ∀ a, A = some a → some a.block ≠ row) : At w' sz enc A n c xs :=
  ⟨h.len, h.le, h.max, h.none_, fun k x hx => by
    obtain ⟨b, off, e, hc⟩ := h.cells k x hx
    have hl := h.len
    have hk : k < xs.length := (List.getElem?_eq_some_iff.1 hx).1
    have h2 := hr (by omega) _ e
    refine ⟨b, off, e, fun j u hu => ?_⟩
    have h3 := hc j u hu
    have h4 := hg.block b (by have := cell_lt h3; simpa using this) h2
    unfold World.cell? at h3 ⊢
    simp only at h3 ⊢
    rw [h4]
    exact h3⟩
structure CyS (w wr : World) (F : List UInt8 → List UInt8) (D : List (List UInt8)) (k : Nat) (v : Value) (hs : List (Option Addr × Nat × Nat)) : Prop where
  ext : Ext w wr
  own : Own wr w.heap.size 28 1 eB1 v hs
  len : hs.length = k
  ok : ∀ i, i < k → At wr 1 e8 (hs.getD i (none, 0, 0)).1 (hs.getD i (none, 0, 0)).2.1 (hs.getD i (none, 0, 0)).2.2 (F (D.getD i []))
  ne : ∀ i, i < k → 0 < (hs.getD i (none, 0, 0)).2.1 → ∀ x, (hs.getD i (none, 0, 0)).1 = some x → some x.block ≠ v.ownBlock
theorem CyS.nil (w : World) (F : List UInt8 → List UInt8) (D : List (List UInt8)) : CyS w w F D 0 (.slice none 0 0) [] :=
  ⟨Ext.refl _, Own.nil _ _ _ _ _, rfl, fun _ hi => absurd hi (Nat.not_lt_zero _), fun _ hi => absurd hi (Nat.not_lt_zero _)⟩
theorem CyS.dts {w wr : World} {F : List UInt8 → List UInt8} {D : List (List UInt8)} {k : Nat} {v : Value} {hs : List (Option Addr × Nat × Nat)} (h : CyS w wr F D k v hs) (hk : k = D.length) : ∃ A c, v = .slice A k c ∧ DtsAt wr A k c hs (D.map F) := by
  obtain ⟨A, c, hv, ha⟩ := h.own.at_ len_eB1
  rw [h.len] at hv ha
  refine ⟨A, c, hv, ha, by rw [List.length_map, hk], fun i hi => ?_⟩
  have e : (D.map F).getD i [] = F (D.getD i []) := by
    have : i < D.length := by omega
    simp [List.getD, this]
  rw [e]
  exact h.ok i hi
theorem getD_snoc_lt {α : Type} {l : List α} {x d : α} {i : Nat} (h : i < l.length) : (l ++ [x]).getD i d = l.getD i d := by
  simp only [List.getD_eq_getElem?_getD, List.getElem?_append_left h]
theorem getD_snoc_eq {α : Type} (l : List α) (x d : α) : (l ++ [x]).getD l.length d = x := by
  simp [List.getD_eq_getElem?_getD]
theorem CyS.step {w wr wb w' : World} {F : List UInt8 → List UInt8} {D : List (List UInt8)} {k : Nat} {v v' : Value} {hs : List (Option Addr × Nat × Nat)} {pA : Option Addr} {pn pc : Nat} (h : CyS w wr F D k v hs) (hE : Ext wr wb) (hp : At wb 1 e8 pA pn pc (F (D.getD k []))) (hf : ∀ x, pA = some x → wr.heap.size ≤ x.block)
    (ho : Own w' w.heap.size 28 1 eB1 v' (hs ++ [(pA, pn, pc)])) (hg : wb.grownBy w' v.ownBlock) (hr : v'.ownBlock = v.ownBlock ∨ v'.ownBlock = some wb.heap.size) : CyS w w' F D (k + 1) v' (hs ++ [(pA, pn, pc)]) := by
  have hl := h.len
  have hlt := h.own.lt
  have hsz := hE.size
  have key : ∀ i, i < k + 1 → At wb 1 e8 ((hs ++ [(pA, pn, pc)]).getD i (none, 0, 0)).1 ((hs ++ [(pA, pn, pc)]).getD i (none, 0, 0)).2.1 ((hs ++ [(pA, pn, pc)]).getD i (none, 0, 0)).2.2 (F (D.getD i [])) ∧
      (0 < ((hs ++ [(pA, pn, pc)]).getD i (none, 0, 0)).2.1 → ∀ x, ((hs ++ [(pA, pn, pc)]).getD i (none, 0, 0)).1 = some x → some x.block ≠ v.ownBlock) := fun i hi => by
    by_cases hik : i = k
    · subst hik
      subst hl
      rw [getD_snoc_eq]
      exact ⟨hp, fun _ x hx e => by have := hf x hx; have := hlt x.block e.symm; omega⟩
    · rw [getD_snoc_lt (by omega)]
      exact ⟨(h.ok i (by omega)).ext hE, h.ne i (by omega)⟩
  refine ⟨(h.own.ext hE).below (Ext.trans h.ext hE) hg (Nat.le_refl _), ho, by rw [List.length_append, hl]; rfl, fun i hi => (key i hi).1.growN hg (key i hi).2, fun i hi h0 x hx => ?_⟩
  obtain ⟨k1, k2⟩ := key i hi
  rcases hr with hr | hr
  · rw [hr]; exact k2 h0 x hx
  · rw [hr]
    intro e
    injection e with e
    have := k1.blk_lt len_e8 (by omega) h0 x hx
    omega
section
variable {P : Program} {ops : Array Oper} {Q : Exit → Act → World → Prop} {md : Region.Mode} {S : World → Prop} {z : Nat}
def AnyZ (P : Program) (md : Region.Mode) (ops : Array Oper) (Q : Exit → Act → World → Prop) (S : World → Prop) (z : Nat) : Nat → Array Bool → Act → World → Prop
  | 0, L, a, w => Region.ready md ops L = [] ∧ Q .normal a w
  | n + 1, L, a, w => (Region.ready md ops L = [] → Q .normal a w) ∧
    ∀ i ∈ Region.ready md ops L, wpOp P ops Q i (fun a' w' => ((L.setIfInBounds i true).getD z true = false → S w') ∧ AnyZ P md ops Q S z n (L.setIfInBounds i true) a' w') a w
theorem AnyZ.any : ∀ (n : Nat) (L : Array Bool) (a : Act) (w : World), AnyZ P md ops Q S z n L a w → wpAny P md ops Q n L a w
  | 0, _, _, _, h => h
  | n + 1, _, _, _, ⟨h0, h1⟩ => ⟨h0, fun i hi => wpOp_mono (fun a' w' h' => AnyZ.any n _ a' w' h'.2) (h1 i hi)⟩
theorem AnyZ.first {i : Nat} {oi oz : Oper} {v : Value} (hi : ops[i]? = some oi) (hz : ops[z]? = some oz) (hzi : ∃ e ∈ oz.after, Region.binds md e = true ∧ e.on = i) (hne : z ≠ i)
    (hsel : ∀ (j : Nat) (o : Oper) cs b, ops[j]? = some o → o.op ≠ .select cs b)
    (hQ : ∀ c a w, Q (.panic c) (a.put oi.dst v) w → Q (.panic c) a w) :
    ∀ (n : Nat) (L : Array Bool) (a : Act) (w : World),
      (∀ j oj, ops[j]? = some oj → j ≠ i → L.getD j true = false → (∀ e ∈ oj.after, Region.binds md e = true → e.on ≠ i) → oi.apart ops oj = true) →
      i ∈ Region.ready md ops L → L.getD z true = false → YieldsIf P ops S oi v a → S w →
      AnyZ P md ops Q S z n (L.setIfInBounds i true) (a.put oi.dst v) w → AnyZ P md ops Q S z (n + 1) L a w
  | 0, L, a, w, _, hr, _, hy, hS, H => by
    refine ⟨fun h => absurd hr (by simp [h]), fun j hj => ?_⟩
    by_cases hji : j = i
    · subst hji
      exact hy.wpOp hi hS ⟨fun _ => hS, H⟩
    · exact absurd (ready_mono hj hji) (by simp [H.1])
  | n + 1, L, a, w, hf, hr, hL, hy, hS, H => by
    refine ⟨fun h => absurd hr (by simp [h]), fun j hj => ?_⟩
    by_cases hji : j = i
    · subst hji
      exact hy.wpOp hi hS ⟨fun _ => hS, H⟩
    obtain ⟨hu, oj, hoj, hall⟩ := mem_ready.1 hj
    have hin : ∀ e ∈ oj.after, Region.binds md e = true → e.on ≠ i := fun e he hb hq => by
      have hdone := hall e he hb
      have hopen := (mem_ready.1 hr).1
      rw [hq] at hdone
      by_cases hs : i < L.size
      · simp [hs] at hdone hopen
        rw [hdone] at hopen
        cases hopen
      · simp [hs] at hdone
    have hjz : j ≠ z := fun h => by
      subst h
      obtain ⟨e, he, hb, hq⟩ := hzi
      rw [hz] at hoj
      injection hoj with hoj
      subst hoj
      exact hin e he hb hq
    have hLz : (L.setIfInBounds j true).getD z true = false := by rw [getD_set_ne true hjz]; exact hL
    have hLz2 : ((L.setIfInBounds i true).setIfInBounds j true).getD z true = false := by
      rw [getD_set_ne true hjz, getD_set_ne true (Ne.symm hne)]; exact hL
    have st := wpOp_putIf hoj (hf j oj hoj hji hu hin) (fun cs b => hsel i oi cs b hi) (fun cs b => hsel j oj cs b hoj) hQ hy (H.2 j (ready_mono hj hji))
    refine wpOp_mono (fun a' w' ⟨hy', hS', hr'⟩ => ?_) st
    have hSw := hS' hLz2
    refine ⟨fun _ => hSw, AnyZ.first hi hz hzi hne hsel hQ n _ a' w' (fun k ok hk hki hun hno => hf k ok hk hki ?_ hno) (ready_mono hr (Ne.symm hji)) hLz hy' hSw ?_⟩
    · by_cases hjk : j = k
      · subst hjk; exact hu
      · rwa [getD_set_ne true hjk] at hun
    · rw [Array.setIfInBounds_comm _ _ hji]
      exact hr'
theorem AnyZ.take {i : Nat} {oi oz : Oper} {v : Value} {n : Nat} {L : Array Bool} {a : Act} {w : World} (hi : ops[i]? = some oi) (hz : ops[z]? = some oz)
    (hzi : (oz.after.any fun e => Region.binds md e && e.on == i) = true) (hne : (z == i) = false) (hs : Region.noSelect ops = true) (hf : Region.free md ops L i = true) (hr : (Region.ready md ops L).contains i = true) (hLz : L.getD z true = false)
    (hQ : ∀ c a w, Q (.panic c) (a.put oi.dst v) w → Q (.panic c) a w) (hy : YieldsIf P ops S oi v a) (hS : S w)
    (h : AnyZ P md ops Q S z n (L.setIfInBounds i true) (a.put oi.dst v) w) : AnyZ P md ops Q S z (n + 1) L a w :=
  AnyZ.first hi hz (by
    obtain ⟨e, he, h⟩ := Array.any_eq_true'.1 hzi
    simp only [Bool.and_eq_true, beq_iff_eq] at h
    exact ⟨e, he, h⟩) (by simpa using hne) (Region.noSelect_spec hs) hQ n L a w (Region.free_spec hi hf) (by simpa using hr) hLz hy hS h
theorem AnyZ.one {i : Nat} {n : Nat} {L : Array Bool} {a : Act} {w : World} (hr : Region.ready md ops L = [i])
    (h : wpOp P ops Q i (fun a' w' => ((L.setIfInBounds i true).getD z true = false → S w') ∧ AnyZ P md ops Q S z n (L.setIfInBounds i true) a' w') a w) : AnyZ P md ops Q S z (n + 1) L a w :=
  ⟨fun h0 => absurd h0 (by simp [hr]), by rw [hr]; simpa using h⟩
theorem AnyZ.step {i : Nat} {n : Nat} {o : Oper} {L : Array Bool} {a : Act} {w : World} (ho : ops[i]? = some o) (hr : Region.ready md ops L = [i])
    (h : ∀ K : Act → World → Prop, Shut (∀ a' w', ((L.setIfInBounds i true).getD z true = false → S w') → AnyZ P md ops Q S z n (L.setIfInBounds i true) a' w' → K a' w') → if Region.wanted o (yielded ops a.tmps) = true then Oper.wp P o a w K Q else K (a.put o.dst undef) w) : AnyZ P md ops Q S z (n + 1) L a w :=
  AnyZ.one hr (wpOp_step ho fun K hK => h K fun a' w' hS hA => hK a' w' ⟨hS, hA⟩)
theorem AnyZ.done {L : Array Bool} {a : Act} {w : World} (hr : Region.ready md ops L = []) (h : Q .normal a w) : ∀ n, AnyZ P md ops Q S z n L a w
  | 0 => ⟨hr, h⟩
  | _ + 1 => ⟨fun _ => h, by rw [hr]; simp⟩
theorem region_z {id : Nat} {a : Act} {w : World} (z : Nat) (hm : P.follows .mixedOrders = true)
    (h : AnyZ P .any ops Q S z ops.size (Array.replicate ops.size false) a { w with drawn := w.drawn + 1 }) : (Code.region id ops true).wp P Q a w :=
  wp_region_any hm (AnyZ.any _ _ _ _ h)
theorem region_any {id : Nat} {a : Act} {w : World} (hm : P.follows .mixedOrders = true) (h : wpAny P .any ops Q ops.size (Array.replicate ops.size false) a w.drew) : (Code.region id ops true).wp P Q a w := wp_region_any hm h
theorem any_take {i d : Nat} {oi : Oper} {v : Value} {n : Nat} {L : Array Bool} {a : Act} {w : World} (hi : ops[i]? = some oi) (hd : oi.dst = some d) (hs : Region.noSelect ops = true)
    (hf : Region.free md ops L i = true) (hr : (Region.ready md ops L).contains i = true) (hQ : ∀ c a w, Q (.panic c) (a.put oi.dst v) w → Q (.panic c) a w) (hy : Yields P ops oi v a)
    (h : wpAny P md ops Q n (L.setIfInBounds i true) (a.put (some d) v) w) : wpAny P md ops Q (n + 1) L a w :=
  wpAny_take hi hs hf hr hQ hy (by rw [hd]; exact h)
end
end Go.Proofs.Ytkbmgakehlmcnaa
