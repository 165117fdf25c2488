/- Several texts in one: Walks: numbers out of bytes, kinds, stop (reference). Conditions as stated; Paths and the boxes that they lead to, in plain words. Plain; Walks: size (reference). Conditions as stated. -/
import Derived.Test.YtlonhkjplijlcaaMwf03
import Derived.Test.YtlonhkjplijlcaaMwf01
import Derived.Deep.DeepCutAuto
import Derived.Test.YtlonhkjplijlcaaMwf34
import Derived.Lib.SplitLaws
import Derived.Test.YtlonhkjplijlcaaMwf39
namespace Go.Proofs.Ytlonhkjplijlcaa
open Go.RowKit
set_option maxRecDepth 100000 in
set_option maxHeartbeats 2000000 in
theorem isKindR_any (s : ByteArray) (w : World) (hs : s.size ≤ maxLen) :
    Calls Try.prog 87 #[.string s] w fun e w' => e = .returned (.bool (isKindB s.data.toList)) ∧ w = w' := by
  unfold maxLen at hs
  have hsz : s.data.toList.length = s.size := by simp
  have HY : Hid (s.data.toList.all kindC = true → isKindB s.data.toList = ((s.size : Int) == 4)) := hide (fun h => by unfold isKindB; rw [hsz, h]; simp; rw [Bool.eq_iff_iff]; simp; omega)
  have HN : Hid (s.data.toList.all kindC = false → isKindB s.data.toList = false) := hide (fun h => by unfold isKindB; rw [h]; simp)
  have HTK : Hid (s.data.toList.take s.size = s.data.toList) := hide (by rw [← hsz, List.take_length])
  clear hsz
  go_enter Try.func87, Try.ntmps87
  go_wp2_with fail
  go_loop [3] (fun ri => ∃ k : Nat, k ≤ s.size ∧ ri = .int .i64 k ∧ Hid ((s.data.toList.take k).all kindC = true)) (fun ri => s.size - (intOf ri).toNat)
  case atStart => exact ⟨0, by omega, rfl, hide (by simp)⟩
  case round =>
    obtain ⟨k, hk, rfl, HA⟩ := hrel
    by_cases hlt : k < s.size
    · have HS := hide (all_take_succ hlt)
      have HNO : Hid (kindC s[k] = false → isKindB s.data.toList = false) := hide (fun h => HN.out (all_no hlt h))
      have i1 : (k : Int) < (s.size : Int) := by omega
      by_cases hl : 97 ≤ s[k].toNat ∧ s[k].toNat ≤ 122
      · have HK : Hid ((s.data.toList.take (k + 1)).all kindC = true) := hide (by rw [HS.out, HA.out]; simp [kindC, hl])
        have g1 : (97 : Int) ≤ (s[k].toNat : Int) := by omega
        have g2 : (s[k].toNat : Int) ≤ 122 := by omega
        clear hl
        go_wp2_with fail
        exact ⟨⟨k + 1, by omega, by go_num, HK⟩, by simp [intOf]; omega⟩
      · by_cases hd : 48 ≤ s[k].toNat ∧ s[k].toNat ≤ 57
        · have HK : Hid ((s.data.toList.take (k + 1)).all kindC = true) := hide (by rw [HS.out, HA.out]; simp [kindC, hd])
          have g1 : ¬ (97 : Int) ≤ (s[k].toNat : Int) := by omega
          have g2 : (48 : Int) ≤ (s[k].toNat : Int) := by omega
          have g3 : (s[k].toNat : Int) ≤ 57 := by omega
          clear hl hd
          go_wp2_with fail
          exact ⟨⟨k + 1, by omega, by go_num, HK⟩, by simp [intOf]; omega⟩
        · have HV : Hid (isKindB s.data.toList = false) := hide (HNO.out (by simp [kindC]; omega))
          by_cases hc1 : 97 ≤ s[k].toNat
          · have g1 : (97 : Int) ≤ (s[k].toNat : Int) := by omega
            have g2 : ¬ (s[k].toNat : Int) ≤ 122 := by omega
            have g3 : (48 : Int) ≤ (s[k].toNat : Int) := by omega
            have g4 : ¬ (s[k].toNat : Int) ≤ 57 := by omega
            clear hd hl hc1
            go_wp2_with fail
            go_ret
            exact ⟨by rw [HV.out]; rfl, rfl⟩
          · have g1 : ¬ (97 : Int) ≤ (s[k].toNat : Int) := by omega
            by_cases hc2 : 48 ≤ s[k].toNat
            · have g3 : (48 : Int) ≤ (s[k].toNat : Int) := by omega
              have g4 : ¬ (s[k].toNat : Int) ≤ 57 := by omega
              clear hd hl hc1 hc2
              go_wp2_with fail
              go_ret
              exact ⟨by rw [HV.out]; rfl, rfl⟩
            · have g3 : ¬ (48 : Int) ≤ (s[k].toNat : Int) := by omega
              clear hd hl hc1 hc2
              go_wp2_with fail
              go_ret
              exact ⟨by rw [HV.out]; rfl, rfl⟩
    · obtain rfl : k = s.size := by omega
      have HV : Hid (isKindB s.data.toList = ((s.size : Int) == 4)) := hide (HY.out (by rw [← HTK.out]; exact HA.out))
      have i1 : ¬ (s.size : Int) < (s.size : Int) := by omega
      go_wp2_with fail
      go_ret
      exact ⟨by rw [HV.out]; rfl, rfl⟩
theorem nests_any (l : List UInt8) (w : World) : Calls Try.prog 88 #[.string ⟨l.toArray⟩] w fun e w' => e = .returned (.bool (hasKidsB l)) ∧ w = w' := by
  go_enter Try.func88, Try.ntmps88
  go_wp2_with fail
  all_goals
    go_ret
    exact ⟨ret_bool (by unfold hasKidsB kFilm kTrck kFrag; simp [*]), rfl⟩
/-- The number that the reference takes bytes for. -/
def numR (l : List UInt8) : Nat := if l.length = 8 ∧ 18014398509481984 ≤ numB (l.take 7) then 4611686018427387904 else numB l
theorem numR_small {l : List UInt8} (h : l.length < 8) : numR l = numB l := by unfold numR; rw [if_neg (by omega)]
theorem numR_cap {l : List UInt8} (h : l.length = 8) (n : Nat) (hn : n < 4611686018427387904) : (numR l ≤ n ↔ numB l ≤ n) ∧ ∀ m, m < 4611686018427387904 → (numR l = m ↔ numB l = m) := by
  unfold numR
  have e : l = l.take 7 ++ [l[7]] := by
    conv => lhs; rw [← List.take_append_drop 7 l]
    congr 1
    rw [List.drop_eq_getElem_cons (by omega), List.drop_of_length_le (by omega)]
  have e2 : numB l = numB (l.take 7) * 256 + (l[7]).toNat := by
    conv => lhs; rw [e]
    exact numB_snoc _ _
  by_cases hc : l.length = 8 ∧ 18014398509481984 ≤ numB (l.take 7)
  · rw [if_pos hc]; exact ⟨by omega, fun m hm => by omega⟩
  · rw [if_neg hc]; exact ⟨Iff.rfl, fun m hm => Iff.rfl⟩
set_option maxRecDepth 100000 in
set_option maxHeartbeats 1000000 in
theorem number_any {A : Option Addr} {n c : Nat} {l : List UInt8} {w : World} (h : At w 1 e8 A n c l) (hn : n ≤ 8) :
    Calls Try.prog 62 #[.slice A n c] w fun e w' => e = .returned (.int .i64 (numR l)) ∧ w = w' := by
  have hl := h.len
  have H := hide h
  have HL := hide hl
  clear h hl
  go_enter Try.func62, Try.ntmps62
  go_wp2_with fail
  go_loop [3, 4] (fun rn ri => ∃ k : Nat, k ≤ n ∧ ri = .int .i64 k ∧ rn = .int .i64 (numB (l.take k)) ∧ Hid (∀ j, j < k → numB (l.take j) < 18014398509481984)) (fun _ ri => n - (intOf ri).toNat)
  case atStart => exact ⟨0, by omega, rfl, rfl, hide (fun j hj => by omega)⟩
  case round =>
    obtain ⟨k, hk, rfl, rfl, HJ⟩ := hrel
    by_cases hlt : k < n
    · obtain ⟨b, off, rfl, _⟩ := H.out.addr (by omega)
      have hkl : k < l.length := by have := HL.out; omega
      have c1 := H.out.byte hkl
      have i1 : (k : Int) < (n : Int) := by omega
      have hst := numB_take hkl
      have hlt2 := numB_lt k (l.take k) (by rw [List.length_take]; omega)
      by_cases hbig : 18014398509481984 ≤ numB (l.take k)
      · have hk7 : k = 7 := by
          have : ¬ k ≤ 6 := fun h6 => by
            have : 256 ^ k ≤ 256 ^ 6 := Nat.pow_le_pow_right (by omega) h6
            omega
          omega
        have HV : Hid (numR l = 4611686018427387904) := hide (by unfold numR; rw [if_pos ⟨by have := HL.out; omega, by rw [← hk7]; exact hbig⟩])
        generalize numB (l.take k) = q at *
        have i2 : (18014398509481984 : Int) ≤ (q : Int) := by omega
        clear hlt2 hst hbig hk7
        go_wp2_with fail
        go_ret
        exact ⟨by rw [HV.out]; rfl, rfl⟩
      · have HJ2 : Hid (∀ j, j < k + 1 → numB (l.take j) < 18014398509481984) := hide (fun j hj => by
          rcases Nat.lt_succ_iff_lt_or_eq.1 hj with h | h
          · exact HJ.out j h
          · rw [h]; omega)
        generalize numB (l.take k) = q at *
        have hb := (l[k]).toNat_lt
        have i2 : ¬ (18014398509481984 : Int) ≤ (q : Int) := by omega
        have u1 : IntKind.i64.wrap ((q : Int) * 256) = (q : Int) * 256 := by rw [IntKind.wrap_i64]; omega
        have u2 : IntKind.i64.wrap ((q : Int) * 256 + (l[k].toNat : Int)) = (q : Int) * 256 + (l[k].toNat : Int) := by rw [IntKind.wrap_i64]; omega
        have HST : Hid ((q : Int) * 256 + (l[k].toNat : Int) = (numB (l.take (k + 1)) : Int)) := hide (by rw [hst]; push_cast; rfl)
        clear hlt2 hst hbig
        go_wp2_with fail
        exact ⟨⟨k + 1, by omega, by go_num, by rw [HST.out], HJ2⟩, by simp [intOf]; omega⟩
    · obtain rfl : n = k := by omega
      have HE : Hid (l.take n = l) := hide (by rw [← HL.out, List.take_length])
      have HV : Hid (numR l = numB l) := hide (by
        unfold numR
        rw [if_neg]
        rintro ⟨h8, h9⟩
        have := HJ.out 7 (by have := HL.out; omega)
        omega)
      have i1 : ¬ (n : Int) < (n : Int) := by omega
      go_wp2_with fail
      go_ret
      exact ⟨by rw [HV.out, HE.out]; rfl, rfl⟩
theorem stop_any {gp : Nat} {A : Option Addr} {n c : Nat} {cnt : Int} {f : Int} {at_ : Int} {w : World} (hp : Blk w gp 123 #[.slice A n c, .int .i64 cnt, .int .i64 0, .int .i64 0]) :
    Calls Try.prog 86 #[.pointer (some ⟨gp, 0, none⟩), .int .i64 f, .int .i64 at_] w fun e w' => e = .returned (.slice none 0 0) ∧ Blk w' gp 123 #[.slice A n c, .int .i64 cnt, .int .i64 at_, .int .i64 f] ∧ Tw w w' gp none := by
  have P := hide hp
  have p3 : w.cell? ⟨gp, 3, none⟩ = some (.int .i64 0) := hp.cell 3
  have z3 : w.frozen? ⟨gp, 3, none⟩ = false := hp.frozen 3
  have z2 : w.frozen? ⟨gp, 2, none⟩ = false := hp.frozen 2
  have p2 : w.cell? ⟨gp, 2, none⟩ = some (.int .i64 0) := hp.cell 2
  clear hp
  go_enter Try.func86, Try.ntmps86
  go_wp2_with fail
  go_ret
  exact ⟨rfl, (P.out.set_ 3 _).set_ 2 _, (Tw.set_ _ _ _ _ _).trans (Tw.set_ _ _ _ _ _)⟩
end Go.Proofs.Ytlonhkjplijlcaa
namespace Go.Proofs.Ytlonhkjplijlcaa
/-- What stands between slashes. -/
def prtL : List UInt8 → List (List UInt8)
  | [] => [[]]
  | b :: l => if b = 47 then [] :: prtL l else match prtL l with
    | [] => [[b]]
    | p :: r => (b :: p) :: r
theorem prtL_pos : ∀ l, 0 < (prtL l).length
  | [] => by simp [prtL]
  | b :: l => by
    rw [prtL]
    split
    · simp
    · split <;> simp
theorem prtL_le : ∀ l, (prtL l).length ≤ l.length + 1
  | [] => by simp [prtL]
  | b :: l => by
    have ih := prtL_le l
    rw [prtL]
    split
    · simp only [List.length_cons]; omega
    · split
      · simp
      · rename_i p r h; rw [h] at ih; simp only [List.length_cons] at ih ⊢; omega
theorem prtL_slash : ∀ l, prtL (l ++ [47]) = prtL l ++ [[]]
  | [] => by simp [prtL]
  | b :: l => by
    rw [List.cons_append, prtL, prtL_slash l, prtL]
    split
    · rfl
    · have h0 := prtL_pos l
      cases hq : prtL l with
      | nil => rw [hq] at h0; simp at h0
      | cons p r => rfl
theorem prtL_byte (c : UInt8) (hc : c ≠ 47) : ∀ l, prtL (l ++ [c]) = (prtL l).set ((prtL l).length - 1) ((prtL l).getD ((prtL l).length - 1) [] ++ [c])
  | [] => by simp [prtL, hc]
  | b :: l => by
    rw [List.cons_append, prtL, prtL_byte c hc l, prtL]
    have h0 := prtL_pos l
    cases hq : prtL l with
    | nil => rw [hq] at h0; simp at h0
    | cons p r =>
      by_cases hb : b = 47
      · rw [if_pos hb, if_pos hb]
        cases r with
        | nil => simp
        | cons q r => simp
      · rw [if_neg hb, if_neg hb]
        cases r with
        | nil => simp
        | cons q r => simp
theorem prtL_take {l : List UInt8} {k : Nat} (h : k < l.length) : prtL (l.take (k + 1)) = if l[k] = 47 then prtL (l.take k) ++ [[]] else (prtL (l.take k)).set ((prtL (l.take k)).length - 1) ((prtL (l.take k)).getD ((prtL (l.take k)).length - 1) [] ++ [l[k]]) := by
  rw [List.take_succ_eq_append_getElem h]
  by_cases hc : l[k] = 47
  · rw [if_pos hc, hc, prtL_slash]
  · rw [if_neg hc, prtL_byte _ hc]
/-- A part is no longer than what it is a part of. -/
theorem prtL_short : ∀ (l : List UInt8) (p : List UInt8), p ∈ prtL l → p.length ≤ l.length
  | [], p, h => by simp [prtL] at h; subst h; simp
  | b :: l, p, h => by
    rw [prtL] at h
    split at h
    · rcases List.mem_cons.1 h with rfl | h
      · simp
      · have := prtL_short l p h; simp only [List.length_cons]; omega
    · split at h
      · simp at h; subst h; simp
      · rename_i q r hq
        rcases List.mem_cons.1 h with rfl | h
        · have := prtL_short l q (by rw [hq]; exact List.mem_cons_self ..); simp only [List.length_cons]; omega
        · have := prtL_short l p (by rw [hq]; exact List.mem_cons_of_mem _ h); simp only [List.length_cons]; omega
theorem splitK_slash (k : Nat) (l : List UInt8) : Go.Lib.splitK [47] 0 (k + 1) (47 :: l) = [] :: Go.Lib.splitK [47] 0 k l := by
  have hix : Go.Lib.index (47 :: l) [47] = 0 := by rw [Go.Lib.index]; simp [List.isPrefixOf]
  rw [Go.Lib.splitK, hix]
  simp
theorem splitK_byte (b : UInt8) (hb : b ≠ 47) (k : Nat) (l : List UInt8) : Go.Lib.splitK [47] 0 k (b :: l) = match Go.Lib.splitK [47] 0 k l with
    | [] => [[b]]
    | p :: r => (b :: p) :: r := by
  have hp : ([47] : List UInt8).isPrefixOf (b :: l) = false := by simp [List.isPrefixOf, Ne.symm hb]
  have hix : Go.Lib.index (b :: l) [47] = if Go.Lib.index l [47] == -1 then -1 else Go.Lib.index l [47] + 1 := by rw [Go.Lib.index, hp]; simp
  cases k with
  | zero => simp [Go.Lib.splitK]
  | succ k =>
    rw [Go.Lib.splitK, Go.Lib.splitK, hix]
    by_cases hm : Go.Lib.index l [47] = -1
    · rw [hm]; simp
    · have hge := Go.Lib.index_ge l [47]
      obtain ⟨j, hj⟩ : ∃ j : Nat, Go.Lib.index l [47] = j := ⟨(Go.Lib.index l [47]).toNat, by omega⟩
      rw [hj]
      have h1 : (((j : Nat) : Int) == -1) = false := by rw [beq_eq_false_iff_ne]; omega
      have h2 : (((j : Nat) : Int) + 1 == -1) = false := by rw [beq_eq_false_iff_ne]; omega
      have h3 : (((j : Nat) : Int) + 1).toNat = j + 1 := by omega
      rw [h1]
      simp [h2, h3]
theorem split_prt : ∀ l : List UInt8, Go.Lib.splitK [47] 0 (Go.Lib.count l [47]) l = prtL l
  | [] => by rw [Go.Lib.count_miss (by simp [Go.Lib.index])]; simp [Go.Lib.splitK, prtL]
  | b :: l => by
    by_cases hb : b = 47
    · subst hb
      rw [Go.Lib.count_cons_eq, Nat.add_comm, splitK_slash, split_prt l, prtL, if_pos rfl]
    · rw [Go.Lib.count_cons_ne b 47 l hb, splitK_byte b hb, split_prt l, prtL, if_neg hb]
/-- The boxes of a kind; what is in boxes. -/
def fltL (k : List UInt8) (l : List BoxT) : List BoxT := l.filter (fun x => decide (x.kind = k))
def kidsL (l : List BoxT) : List BoxT := l.flatMap BoxT.kids
theorem fltL_take {k : List UInt8} {l : List BoxT} {i : Nat} (h : i < l.length) : fltL k (l.take (i + 1)) = if l[i].kind = k then fltL k (l.take i) ++ [l[i]] else fltL k (l.take i) := by
  unfold fltL
  rw [List.take_succ_eq_append_getElem h, List.filter_append]
  by_cases hk : l[i].kind = k
  · rw [if_pos hk]; simp [hk]
  · rw [if_neg hk]; simp [hk]
theorem kidsL_take {l : List BoxT} {i : Nat} (h : i < l.length) : kidsL (l.take (i + 1)) = kidsL (l.take i) ++ l[i].kids := by
  unfold kidsL
  rw [List.take_succ_eq_append_getElem h, List.flatMap_append]
  simp
theorem kidsL_app (a b : List BoxT) : kidsL (a ++ b) = kidsL a ++ kidsL b := by unfold kidsL; rw [List.flatMap_append]
/-- The boxes below so many parts of a path. -/
def lvlL (ks : List (List UInt8)) (l : List BoxT) : Nat → List BoxT
  | 0 => l
  | i + 1 => kidsL (fltL (ks.getD i []) (lvlL ks l i))
/-- The boxes with a path. -/
def fndL (ks : List (List UInt8)) (l : List BoxT) : List BoxT := fltL (ks.getD (ks.length - 1) []) (lvlL ks l (ks.length - 1))
mutual
def cntT : BoxT → Nat
  | .mk _ _ _ l => 1 + cntL l
def cntL : List BoxT → Nat
  | [] => 0
  | x :: r => cntT x + cntL r
end
theorem cntT_eq (x : BoxT) : cntT x = 1 + cntL x.kids := by cases x; rw [cntT]; rfl
theorem cntL_app : ∀ (a b : List BoxT), cntL (a ++ b) = cntL a + cntL b
  | [], b => by simp [cntL]
  | x :: a, b => by rw [List.cons_append, cntL, cntL, cntL_app a b]; omega
theorem cntL_len : ∀ l : List BoxT, l.length ≤ cntL l
  | [] => by simp [cntL]
  | x :: r => by have := cntL_len r; rw [cntL, cntT_eq, List.length_cons]; omega
theorem cntL_flt (k : List UInt8) : ∀ l : List BoxT, cntL (fltL k l) ≤ cntL l
  | [] => by simp [fltL, cntL]
  | x :: r => by
    have ih := cntL_flt k r
    unfold fltL at ih ⊢
    rw [List.filter_cons, cntL]
    split
    · rw [cntL]; omega
    · omega
theorem cntL_kids : ∀ l : List BoxT, cntL (kidsL l) ≤ cntL l
  | [] => by simp [kidsL, cntL]
  | x :: r => by
    have ih := cntL_kids r
    have h1 := cntT_eq x
    have h2 : kidsL (x :: r) = x.kids ++ kidsL r := by unfold kidsL; simp
    rw [h2, cntL_app, cntL]
    omega
theorem cntL_lvl (ks : List (List UInt8)) (l : List BoxT) : ∀ i, cntL (lvlL ks l i) ≤ cntL l
  | 0 => Nat.le_refl _
  | i + 1 => Nat.le_trans (cntL_kids _) (Nat.le_trans (cntL_flt _ _) (cntL_lvl ks l i))
theorem lvl_len (ks : List (List UInt8)) (l : List BoxT) (i : Nat) : (lvlL ks l i).length ≤ cntL l := Nat.le_trans (cntL_len _) (cntL_lvl ks l i)
theorem flt_len (k : List UInt8) (ks : List (List UInt8)) (l : List BoxT) (i : Nat) : (fltL k (lvlL ks l i)).length ≤ cntL l := Nat.le_trans (cntL_len _) (Nat.le_trans (cntL_flt _ _) (cntL_lvl ks l i))
theorem cntL_take (l : List BoxT) (k : Nat) : cntL (l.take k) ≤ cntL l := by
  conv => rhs; rw [← List.take_append_drop k l, cntL_app]
  omega
theorem kids_len (k : List UInt8) (ks : List (List UInt8)) (l : List BoxT) (i j : Nat) : (kidsL ((fltL k (lvlL ks l i)).take j)).length ≤ cntL l :=
  Nat.le_trans (cntL_len _) (Nat.le_trans (cntL_kids _) (Nat.le_trans (cntL_take _ _) (Nat.le_trans (cntL_flt _ _) (cntL_lvl ks l i))))
theorem kids_len2 (k : List UInt8) (ks : List (List UInt8)) (l : List BoxT) (i j : Nat) : (kidsL (fltL k ((lvlL ks l i).take j))).length ≤ cntL l :=
  Nat.le_trans (cntL_len _) (Nat.le_trans (cntL_kids _) (Nat.le_trans (cntL_flt _ _) (Nat.le_trans (cntL_take _ _) (cntL_lvl ks l i))))
theorem fau_count : ∀ (l : List BoxT) (dep c m : Nat), fauL l dep c = (0, m) → m = c + cntL l
  | [], dep, c, m, h => by rw [fauL] at h; injection h with _ h2; rw [cntL]; omega
  | .mk k f d l :: r, dep, c, m, h => by
    obtain ⟨_, _, m', h3, h4⟩ := fauL_ok h
    have i1 := fau_count l (dep + 1) (c + 1) m' h3
    have i2 := fau_count r dep m' m h4
    rw [cntL, cntT]
    omega
/-- Is each part a kind? -/
def kindsB (ks : List (List UInt8)) : Bool := ks.all isKindB
theorem kindsB_no {ks : List (List UInt8)} {i : Nat} (h : i < ks.length) (hb : isKindB ks[i] = false) : kindsB ks = false := by
  unfold kindsB
  rw [List.all_eq_false]
  exact ⟨ks[i], List.getElem_mem h, by simp [hb]⟩
theorem kindsB_take {ks : List (List UInt8)} {i : Nat} (h : i < ks.length) : kindsB (ks.take (i + 1)) = (kindsB (ks.take i) && isKindB ks[i]) := by
  unfold kindsB
  rw [List.take_succ_eq_append_getElem h, List.all_append]
  simp
end Go.Proofs.Ytlonhkjplijlcaa
namespace Go.Proofs.Ytlonhkjplijlcaa
open Go.RowKit
def SzrStmt (s : Nat) : Prop := ∀ {l : List BoxT} {w : World} {G : Nat → Prop} {A : Option Addr} {n c : Nat}, SizeOf.sizeOf l ≤ s → BxsAt w G A n c l → sizeL l < 4611686018427387904 →
  Calls Try.prog 24 #[.slice A n c] w fun e w' => e = .returned (.int .i64 (sizeL l : Int)) ∧ ∃ m, w' = w.drewN m
set_option linter.unusedVariables false in
set_option maxRecDepth 100000 in
set_option maxHeartbeats 4000000 in
theorem szr_step (s : Nat) (ih : ∀ s', s' < s → SzrStmt s') : SzrStmt s := by
  intro l w G A n c hs hk hb
  have hkl := hk.len
  obtain ⟨ys, ha, hy, hh1, hk1⟩ := hk.parts
  have HA := hide ha
  have HH1 := hide hh1
  have HK1 := hide hk1
  have IH := hide ih
  have HY := hide hy
  have HKL := hide hkl
  have HSL := hide (fun (k : Nat) (h : k < l.length) => sizeL_take h)
  have HSE := hide (fun (k : Nat) => sizeL_le l k)
  have HSZ := hide (fun (k : Nat) (h : k < l.length) => (by have := kids_lt l[k]; have := elem_lt (List.getElem_mem h); omega : SizeOf.sizeOf l[k].kids < s))
  have HT : Hid (sizeL (l.take n) = sizeL l) := hide (by rw [← hkl, List.take_length])
  have hkb := ha.bound
  have HLB : Hid (∀ k, sizeL (l.take k) < 4611686018427387904) := hide (fun k => by have := HSE.out k; omega)
  clear ha hh1 hk1 ih hy hkl hk hs hb
  go_enter Try.func24, Try.ntmps24
  go_wp2_with fail
  go_loopw [3, 4] (fun r3 ri wr => ∃ k : Nat, k ≤ n ∧ ri = .int .i64 k ∧ r3 = .int .i64 ((sizeL (l.take k) : Nat) : Int) ∧ Hid (∃ m, wr = w.drewN m)) (fun _ ri _ => n - (intOf ri).toNat)
  case atStart => exact ⟨0, by omega, rfl, by simp [sizeL], hide ⟨0, rfl⟩⟩
  case round =>
    obtain ⟨k, hk, rfl, rfl, HD⟩ := hrel
    by_cases hlt : k < n
    · have hkl : k < l.length := by have := HKL.out; omega
      have hky : k < ys.length := by have := HY.out; omega
      have EX : Ext w wr := by obtain ⟨m, hm⟩ := HD.out; rw [hm]; exact Ext.drewN _ _
      have hat := HA.out.ext EX
      have hq := (HH1.out k _ _ (List.getElem?_eq_getElem hky) (List.getElem?_eq_getElem hkl)).ext EX
      have hr := (HK1.out k _ _ (List.getElem?_eq_getElem hky) (List.getElem?_eq_getElem hkl)).ext EX
      have hsz := HSZ.out k hkl
      have HSU := hide (HSL.out k hkl)
      have hle := HLB.out (k + 1)
      rw [HSU.out, sizeT_eq] at hle
      obtain ⟨b, o, rfl, _⟩ := hat.addr (by omega)
      have gy : ys.getD k default = ys[k] := by simp [List.getD, hky]
      have hdl := hq.2.2.1.len
      generalize ys[k] = z at *
      generalize l[k] = u at *
      have a1 : wr.cell? ⟨b, o + k * 4 + 1, none⟩ = some (.int .i64 z.form) := hat.cellK hlt default 1 _ (by rw [gy]; rfl)
      have a2 : wr.cell? ⟨b, o + k * 4 + 2, none⟩ = some (.slice z.dA z.dn z.dc) := hat.cellK hlt default 2 _ (by rw [gy]; rfl)
      have a3 : wr.cell? ⟨b, o + k * 4 + 3, none⟩ = some (.slice z.kA z.kn z.kc) := hat.cellK hlt default 3 _ (by rw [gy]; rfl)
      rw [hq.2.1] at a1
      rw [hdl] at hle
      have HC := hide (fun (a : Nat) => IH.out _ hsz (Nat.le_refl _) (hr.ext (Ext.drewN wr a)) (by omega))
      have HSU2 : Hid (sizeL (l.take (k + 1)) = sizeL (l.take k) + (8 + z.dn + (if u.form = 1 then 8 else 0) + sizeL u.kids)) := hide (by rw [HSU.out, sizeT_eq, hdl])
      generalize sizeL u.kids = su at *
      generalize sizeL (l.take k) = sl at *
      generalize u.form = uf at *
      have i1 : (k : Int) < (n : Int) := by omega
      have i0 : (0 : Int) ≤ (k : Int) := by omega
      have hle2 : sl + (8 + z.dn + su) < 4611686018427387904 := by omega
      have i7 : IntKind.i64.wrap (8 + (z.dn : Int)) = 8 + (z.dn : Int) := by rw [IntKind.wrap_i64]; omega
      have i8 : IntKind.i64.wrap (8 + (z.dn : Int) + (su : Int)) = 8 + (z.dn : Int) + (su : Int) := by rw [IntKind.wrap_i64]; omega
      have i9 : IntKind.i64.wrap ((sl : Int) + (8 + (z.dn : Int) + (su : Int))) = (sl : Int) + (8 + (z.dn : Int) + (su : Int)) := by rw [IntKind.wrap_i64]; omega
      clear hat hq hr hsz gy EX hky hkl hdl
      go_wp2_with fail
      go_quiet ((go_at_call 24; exact calls_left (HC.out _)))
      by_cases hf : uf = 1
      · have HE : Hid (((sizeL (l.take (k + 1)) : Nat) : Int) = (sl : Int) + (8 + (z.dn : Int) + (su : Int)) + 8) := hide (by rw [HSU2.out, if_pos hf]; omega)
        rw [if_pos hf] at hle
        have i10 : IntKind.i64.wrap ((sl : Int) + (8 + (z.dn : Int) + (su : Int)) + 8) = (sl : Int) + (8 + (z.dn : Int) + (su : Int)) + 8 := by rw [IntKind.wrap_i64]; omega
        subst hf
        go_wp2_with fail
        exact ⟨⟨k + 1, by omega, by go_num, int_val HE.out.symm, hide (by obtain ⟨m, hm⟩ := HD.out; exact ⟨_, by rw [hm, drewN_add]⟩)⟩, by simp [intOf]; omega⟩
      · have HE : Hid (((sizeL (l.take (k + 1)) : Nat) : Int) = (sl : Int) + (8 + (z.dn : Int) + (su : Int))) := hide (by rw [HSU2.out, if_neg hf]; omega)
        have d0 : (uf == 1) = false := by rw [beq_eq_false_iff_ne]; exact hf
        clear hf hle
        go_wp2_with fail
        exact ⟨⟨k + 1, by omega, by go_num, int_val HE.out.symm, hide (by obtain ⟨m, hm⟩ := HD.out; exact ⟨_, by rw [hm, drewN_add]⟩)⟩, by simp [intOf]; omega⟩
    · obtain rfl : k = n := by omega
      have HE : Hid (((sizeL (l.take k) : Nat) : Int) = (sizeL l : Int)) := hide (by rw [HT.out])
      clear hlt
      go_wp2_with fail
      go_ret
      exact ⟨ret_int HE.out, HD.out⟩
theorem szr_any (s : Nat) : SzrStmt s := by
  induction s using Nat.strongRecOn with
  | _ s ih => exact szr_step s ih
end Go.Proofs.Ytlonhkjplijlcaa
