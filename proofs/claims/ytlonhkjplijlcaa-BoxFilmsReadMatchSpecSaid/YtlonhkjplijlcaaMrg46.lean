/- Walks: IsName, IsScale, checkTrack, CheckFilm (reference). Conditions as stated. -/
import Derived.Test.YtlonhkjplijlcaaMrg35
import Derived.Test.YtlonhkjplijlcaaMrg12
namespace Go.Proofs.Ytlonhkjplijlcaa
open Go.RowKit
theorem letB_iff (c : UInt8) : letB c = true ↔ 97 ≤ (c.toNat : Int) ∧ (c.toNat : Int) ≤ 122 := by unfold letB; simp
theorem digB_iff (c : UInt8) : digB c = true ↔ 48 ≤ (c.toNat : Int) ∧ (c.toNat : Int) ≤ 57 := by unfold digB; simp
theorem okB_iff (c : UInt8) : okB c = true ↔ (97 ≤ (c.toNat : Int) ∧ (c.toNat : Int) ≤ 122) ∨ (48 ≤ (c.toNat : Int) ∧ (c.toNat : Int) ≤ 57) ∨ (c.toNat : Int) = 45 := by
  unfold okB; simp only [Bool.or_eq_true, letB_iff, digB_iff, decide_eq_true_eq]; omega
theorem size_list (s : ByteArray) : s.toList.length = s.size := by rw [ByteArray.toList_eq]; rfl
set_option linter.unusedVariables false in
set_option maxRecDepth 100000 in
set_option maxHeartbeats 4000000 in
theorem isName1_any (s : ByteArray) (hs : s.size ≤ maxLen) (w : World) : Calls Try.prog 74 #[.string s] w fun e w' => e = .returned (.bool (nameB s)) ∧ w = w' := by
  unfold maxLen at hs
  have hsl := size_list s
  have HSL := hide hsl
  clear hsl
  go_enter Try.func74, Try.ntmps74
  go_wp2_with fail
  go_loop [3] (fun ri => ∃ k : Nat, k ≤ s.size ∧ ri = .int .i64 k ∧ Hid (∀ j (hj : j < s.size), j < k → okB (s[j]'hj) = true) ∧ Hid (∀ h : 0 < s.size, 0 < k → letB (s[0]'h) = true)) (fun ri => s.size - (intOf ri).toNat)
  case atStart => exact ⟨0, by omega, rfl, hide (fun j _ hj => by omega), hide (fun _ hj => by omega)⟩
  case round =>
    obtain ⟨k, hk, rfl, HA, HL⟩ := hrel
    by_cases hlt : k < s.size
    · have hok := okB_iff (s[k]'hlt)
      have hle := letB_iff (s[k]'hlt)
      have HN : Hid (okB (s[k]'hlt) = true → ∀ j (hj : j < s.size), j < k + 1 → okB (s[j]'hj) = true) := hide (fun hb j hj h2 => by
        rcases Nat.lt_succ_iff_lt_or_eq.1 h2 with h | h
        · exact HA.out j hj h
        · subst h; exact hb)
      have HL2 : Hid ((0 < k ∨ letB (s[k]'hlt) = true) → ∀ h : 0 < s.size, 0 < k + 1 → letB (s[0]'h) = true) := hide (fun hb h _ => by
        rcases Nat.eq_zero_or_pos k with h0 | h0
        · subst h0
          rcases hb with hb | hb
          · omega
          · exact hb
        · exact HL.out h h0)
      have HF0 := hide (fun (h0 : k = 0) (hb : letB (s[k]'hlt) = false) => (by subst h0; exact nameB_0 hlt hb : nameB s = false))
      have HFK := hide (fun (hb : okB (s[k]'hlt) = false) => nameB_at (s := s) hlt hb)
      have i1 : (k : Int) < (s.size : Int) := by omega
      by_cases hl : 97 ≤ ((s[k]'hlt).toNat : Int) ∧ ((s[k]'hlt).toNat : Int) ≤ 122
      · have HN2 := hide (HN.out (hok.2 (.inl hl)))
        have HL3 := hide (HL2.out (.inr (hle.2 hl)))
        obtain ⟨g1, g2⟩ := hl
        clear hok hle
        go_wp2_with fail
        go_round
        case rel => exact ⟨k + 1, by omega, by go_num, HN2, HL3⟩
        case measure => simp [intOf]; omega
      · have hlf : letB (s[k]'hlt) = false := by simpa using fun h => hl (hle.1 h)
        rcases Nat.eq_zero_or_pos k with hk0 | hk0
        · have HF := hide (HF0.out hk0 hlf)
          have e0 : ((k : Int) == 0) = true := by rw [beq_iff_eq]; omega
          have hc : ((s[k]'hlt).toNat : Int) < 97 ∨ (97 ≤ ((s[k]'hlt).toNat : Int) ∧ 122 < ((s[k]'hlt).toNat : Int)) := by omega
          clear hok hle hlf hl hk0
          rcases hc with hc | ⟨hc, hc2⟩
          · go_wp2_with fail
            go_ret
            exact ⟨ret_bool HF.out.symm, rfl⟩
          · have d2 : decide (((s[k]'hlt).toNat : Int) ≤ 122) = false := by simp; omega
            go_wp2_with fail
            go_ret
            exact ⟨ret_bool HF.out.symm, rfl⟩
        · have e0 : ((k : Int) == 0) = false := by rw [beq_eq_false_iff_ne]; omega
          by_cases h45 : ((s[k]'hlt).toNat : Int) = 45
          · have HN2 := hide (HN.out (hok.2 (.inr (.inr h45))))
            have HL3 := hide (HL2.out (.inl hk0))
            have g1 : ((s[k]'hlt).toNat : Int) < 97 := by omega
            have g3 : (((s[k]'hlt).toNat : Int) != 45) = false := by simp [h45]
            clear hok hle hlf hl hk0 h45
            go_wp2_with fail
            go_round
            case rel => exact ⟨k + 1, by omega, by go_num, HN2, HL3⟩
            case measure => simp [intOf]; omega
          · have g3 : (((s[k]'hlt).toNat : Int) != 45) = true := by rw [bne_iff_ne]; exact h45
            by_cases hd : 48 ≤ ((s[k]'hlt).toNat : Int) ∧ ((s[k]'hlt).toNat : Int) ≤ 57
            · have HN2 := hide (HN.out (hok.2 (.inr (.inl hd))))
              have HL3 := hide (HL2.out (.inl hk0))
              have g1 : ((s[k]'hlt).toNat : Int) < 97 := by omega
              obtain ⟨d1, d2⟩ := hd
              clear hok hle hlf hl hk0 h45
              go_wp2_with fail
              go_round
              case rel => exact ⟨k + 1, by omega, by go_num, HN2, HL3⟩
              case measure => simp [intOf]; omega
            · have HF := hide (HFK.out (by rw [Bool.eq_false_iff]; intro h; have := hok.1 h; omega))
              have hc : (((s[k]'hlt).toNat : Int) < 97 ∧ ((s[k]'hlt).toNat : Int) < 48) ∨ (((s[k]'hlt).toNat : Int) < 97 ∧ 48 ≤ ((s[k]'hlt).toNat : Int) ∧ 57 < ((s[k]'hlt).toNat : Int)) ∨ (97 ≤ ((s[k]'hlt).toNat : Int) ∧ 122 < ((s[k]'hlt).toNat : Int) ∧ 48 ≤ ((s[k]'hlt).toNat : Int) ∧ 57 < ((s[k]'hlt).toNat : Int)) := by omega
              clear hok hle hlf hl hk0 h45 hd
              rcases hc with ⟨c1, c2⟩ | ⟨c1, c2, c3⟩ | ⟨c1, c2, c3, c4⟩
              · go_wp2_with fail
                go_ret
                exact ⟨ret_bool HF.out.symm, rfl⟩
              · have d3 : decide (((s[k]'hlt).toNat : Int) ≤ 57) = false := by simp; omega
                go_wp2_with fail
                go_ret
                exact ⟨ret_bool HF.out.symm, rfl⟩
              · have d2 : decide (((s[k]'hlt).toNat : Int) ≤ 122) = false := by simp; omega
                have d3 : decide (((s[k]'hlt).toNat : Int) ≤ 57) = false := by simp; omega
                go_wp2_with fail
                go_ret
                exact ⟨ret_bool HF.out.symm, rfl⟩
    · obtain rfl : k = s.size := by omega
      have hsl := HSL.out
      by_cases h0 : s.size = 0
      · have HF := hide (nameB_no (s := s) (.inl h0))
        have e1 : s.toList = [] := List.eq_nil_of_length_eq_zero (by omega)
        have e2 : s.toList.isEmpty = true := by rw [e1]; rfl
        clear h0 hsl hlt
        go_wp2_with fail
        go_ret
        exact ⟨ret_bool HF.out.symm, rfl⟩
      have e1 : ¬ s.toList = [] := by intro h; rw [h] at hsl; simp at hsl; omega
      have e2 : s.toList.isEmpty = false := by cases h : s.toList with | nil => exact absurd h e1 | cons _ _ => rfl
      have e3 : (!s.toList.isEmpty) = true := by rw [e2]; rfl
      by_cases h4 : 40 < s.size
      · have HF := hide (nameB_no (s := s) (.inr h4))
        have g1 : ¬ (s.size : Int) ≤ 40 := by omega
        clear h0 hsl hlt h4
        go_wp2_with fail
        go_ret
        exact ⟨ret_bool (by rw [HF.out]), rfl⟩
      · have HF := hide (nameB_yes (s := s) (by omega) (by omega) (HL.out (by omega) (by omega)) (fun j hj => HA.out j hj hj))
        have g1 : (s.size : Int) ≤ 40 := by omega
        clear h0 hsl hlt h4
        go_wp2_with fail
        go_ret
        exact ⟨ret_bool (by rw [HF.out]), rfl⟩
theorem isScale1_any (n : Int) (w : World) : Calls Try.prog 46 #[.int .i64 n] w fun e w' => e = .returned (.bool (!badSc n)) ∧ w = w' := by
  unfold badSc
  by_cases h1 : 1 ≤ n
  · by_cases h2 : n ≤ 1000000000
    · have HF : Hid ((!decide (n < 1 ∨ 1000000000 < n)) = true) := hide (by simp; omega)
      go_enter Try.func46, Try.ntmps46
      go_wp2
      go_ret
      exact ⟨by first | rfl | (rw [HF.out]; rfl) | (rw [HF.out]; simp [h2]), rfl⟩
    · have HF : Hid ((!decide (n < 1 ∨ 1000000000 < n)) = false) := hide (by simp; omega)
      go_enter Try.func46, Try.ntmps46
      go_wp2
      go_ret
      exact ⟨by first | rfl | (rw [HF.out]; rfl) | (rw [HF.out]; simp [h2]), rfl⟩
  · have HF : Hid ((!decide (n < 1 ∨ 1000000000 < n)) = false) := hide (by simp; omega)
    go_enter Try.func46, Try.ntmps46
    go_wp2
    go_ret
    exact ⟨by first | rfl | (rw [HF.out]; rfl), rfl⟩
set_option linter.unusedVariables false in
set_option maxRecDepth 100000 in
set_option maxHeartbeats 8000000 in
theorem checkTrack_any {A : Option Addr} {n c : Nat} {hs : List TrkH} {l : List TrkT} {w : World} {i : Nat} (h : TksAt w A n c hs l) (hi : i < n) (hn : nmF l) :
    Calls Try.prog 47 #[.slice A n c, .int .i64 (i : Int)] w fun e w' => e = .returned (.int .i64 (trF (l.getD i default) (l.take i))) ∧ Ext w w' := by
  have hx := h.ok i hi
  have hs1 := hx.2.2.1
  have hs2 := hx.2.2.2
  have hnl := hn i (by rw [h.len]; exact hi)
  have hnb := h.at_.bound
  have hpar := h.at_
  obtain ⟨b, o, rfl, _⟩ := hpar.addr (by omega)
  have HLK : Hid ((l.take i).length = i) := hide (by rw [List.length_take, h.len]; omega)
  have HGT : Hid (∀ j, j < i → (l.take i).getD j default = l.getD j default) := hide (fun j hj => by simp only [List.getD_eq_getElem?_getD, List.getElem?_take, hj, if_true])
  have HNM : Hid (∀ j, j < n → (hs.getD j default).name = (l.getD j default).name) := hide (fun j hj => (h.ok j hj).1)
  have HAT := hide h.at_
  generalize l.take i = lb at *
  obtain ⟨y, hy⟩ : ∃ y, hs.getD i default = y := ⟨_, rfl⟩
  obtain ⟨x, hxx⟩ : ∃ x, l.getD i default = x := ⟨_, rfl⟩
  rw [hy, hxx] at hx hs1 hs2
  rw [hxx] at hnl ⊢
  have a0 : w.cell? ⟨b, o + i * 4, none⟩ = some (.string ⟨x.name.toArray⟩) := by have := hpar.cellK hi default 0 _ (by rw [hy]; rfl); rwa [hx.1] at this
  have a1 : w.cell? ⟨b, o + i * 4 + 1, none⟩ = some (.int .i64 x.scale) := by have := hpar.cellK hi default 1 _ (by rw [hy]; rfl); rwa [hx.2.1] at this
  have a2 : w.cell? ⟨b, o + i * 4 + 2, none⟩ = some (.slice y.sA y.sn y.sc) := hpar.cellK hi default 2 _ (by rw [hy]; rfl)
  have a3 : w.cell? ⟨b, o + i * 4 + 3, none⟩ = some (.slice y.eA y.en y.ec) := hpar.cellK hi default 3 _ (by rw [hy]; rfl)
  have HVT : Hid (trF x lb = if nameB ⟨x.name.toArray⟩ = false then 5 else if lb.any (fun y => y.name == x.name) = true then 7 else if badSc x.scale = true then 1 else if smpF x.smp ≠ 0 then smpF x.smp else if 50 < x.ed.length then 2 else edF x.ed) := hide rfl
  have HIN := hide (fun (W : World) => isName1_any ⟨x.name.toArray⟩ (by show x.name.toArray.size ≤ maxLen; rw [List.size_toArray]; assumption) W)
  have HNS := hide (fun (W : World) => isScale1_any x.scale W)
  have HKS := hide (fun (W : World) (hW : Ext w W) => refSamples_any (hs1.ext hW))
  have HS2 := hide hs2
  have hel := hs2.len
  have HEL := hide hel
  have heb := hs2.bound
  rw [hel] at HVT
  clear hs1 hs2 hx h hn hel hpar hy hxx hnl
  generalize trF x lb = R at *
  generalize x.name = xn at *
  generalize x.scale = xs at *
  generalize x.ed = xe at *
  generalize y.sA = sA at *
  generalize y.sn = sn at *
  generalize y.sc = sc at *
  generalize y.eA = eA at *
  generalize y.en = en at *
  generalize y.ec = ec at *
  have i1 : (i : Int) < (n : Int) := by omega
  have i0 : (0 : Int) ≤ (i : Int) := by omega
  go_enter Try.func47, Try.ntmps47
  go_upto_region 2 with (fail)
  refine gen_wpC fun w0 h0 => ?_
  obtain ⟨xb, hxb⟩ : ∃ xb, xb = w.heap.size := ⟨_, rfl⟩
  rw [← hxb]
  have E0 : Hid (Ext w w0) := hide (by rw [h0]; exact Ext.alloc _ _)
  have X0 : Hid (Blk w0 xb 53 #[.string ⟨xn.toArray⟩, .int .i64 xs, .slice sA sn sc, .slice eA en ec]) := hide (by rw [h0, hxb]; exact Blk.new _ _ _)
  clear h0 hxb a0 a1 a2 a3
  have x0 : w0.cell? ⟨xb, 0, none⟩ = some (.string ⟨xn.toArray⟩) := X0.out.cell 0
  cases hnm : nameB ⟨xn.toArray⟩ with
  | false =>
    have HE : Hid (R = 5) := hide (by rw [HVT.out, if_pos hnm])
    rw [hnm] at HIN
    clear hnm
    go_wp2_with fail
    with_reducible refine (HIN.out _).mono ?_
    rintro e w' ⟨rfl, rfl⟩
    go_wp2_with fail
    go_ret
    exact ⟨ret_int HE.out.symm, E0.out⟩
  | true =>
  have HVT2 : Hid (R = if lb.any (fun y => y.name == xn) = true then 7 else if badSc xs = true then 1 else if smpF x.smp ≠ 0 then smpF x.smp else if 50 < en then 2 else edF xe) := hide (by rw [HVT.out, if_neg (by simp [hnm])])
  rw [hnm] at HIN
  clear hnm HVT
  go_wp2_with fail
  with_reducible refine (HIN.out _).mono ?_
  rintro e w' ⟨rfl, rfl⟩
  go_wp2_with fail
  clear x0 HIN
  go_loopw [6] (fun ri wr => ∃ k : Nat, k ≤ i ∧ ri = .int .i64 k ∧ Hid (∀ j, j < k → (lb.getD j default).name ≠ xn) ∧ Hid (Ext w0 wr)) (fun ri _ => i - (intOf ri).toNat)
  case atStart => exact ⟨0, by omega, rfl, hide (fun j hj => absurd hj (Nat.not_lt_zero _)), hide (Ext.refl _)⟩
  case round =>
    obtain ⟨k, hk, rfl, HA, HX⟩ := hrel
    by_cases hlt : k < i
    · have EX := Ext.trans E0.out HX.out
      have hat := HAT.out.ext EX
      obtain ⟨z, hz⟩ : ∃ z, hs.getD k default = z := ⟨_, rfl⟩
      have a0 : wr.cell? ⟨b, o + k * 4, none⟩ = some (.string ⟨z.name.toArray⟩) := hat.cellK (by omega) default 0 _ (by rw [hz]; rfl)
      have HKK : Hid (z.name = (lb.getD k default).name) := hide (by rw [HGT.out k hlt, ← hz]; exact HNM.out k (by omega))
      have x0 : wr.cell? ⟨xb, 0, none⟩ = some (.string ⟨xn.toArray⟩) := HX.out.cell (X0.out.cell 0)
      have j1 : (k : Int) < (i : Int) := by omega
      have j2 : (k : Int) < (n : Int) := by omega
      have j0 : (0 : Int) ≤ (k : Int) := by omega
      have E5 : Hid (∀ m, Ext w0 (wr.drewN m)) := hide (fun m => Ext.trans HX.out (Ext.drewN _ _))
      by_cases heq : z.name = xn
      · have HE : Hid (R = 7) := hide (by rw [HVT2.out, if_pos (twice_yes (k := k) (by have := HLK.out; omega) (by rw [← HKK.out]; exact heq))])
        have dk : (z.name == xn) = true := by rw [heq]; simp
        clear hat hz EX heq
        go_wp2_with fail
        go_quiet (fail)
        go_wp2_with fail
        go_ret
        exact ⟨ret_int HE.out.symm, Ext.trans E0.out (E5.out _)⟩
      · have dk : (z.name == xn) = false := by rw [beq_eq_false_iff_ne]; exact heq
        have HA2 : Hid (∀ j, j < k + 1 → (lb.getD j default).name ≠ xn) := hide (fun j hj => by
          rcases Nat.lt_succ_iff_lt_or_eq.1 hj with h | h
          · exact HA.out j h
          · rw [h, ← HKK.out]; exact heq)
        clear hat hz EX heq
        go_wp2_with fail
        go_quiet (fail)
        go_wp2_with fail
        exact ⟨⟨k + 1, by omega, by go_num, HA2, hide (E5.out _)⟩, by simp [intOf]; omega⟩
    · obtain rfl : k = i := by omega
      have HVT3 : Hid (R = if badSc xs = true then 1 else if smpF x.smp ≠ 0 then smpF x.smp else if 50 < en then 2 else edF xe) := hide (by rw [HVT2.out, if_neg (by rw [twice_no (fun j hj => HA.out j (by have := HLK.out; omega))]; simp)])
      obtain ⟨w2, hw2⟩ : ∃ w2, w2 = wr := ⟨_, rfl⟩
      subst hw2
      have XB := hide (X0.out.ext HX.out)
      have x1 : w2.cell? ⟨xb, 1, none⟩ = some (.int .i64 xs) := XB.out.cell 1
      have EW2 := hide (Ext.trans E0.out HX.out)
      clear hlt HA HVT2 HX X0
      cases hsc : badSc xs with
      | true =>
        have HE : Hid (R = 1) := hide (by rw [HVT3.out, if_pos hsc])
        rw [hsc] at HNS
        clear hsc
        go_wp2_with fail
        with_reducible refine (HNS.out _).mono ?_
        rintro e w' ⟨rfl, rfl⟩
        go_wp2_with fail
        go_ret
        exact ⟨ret_int HE.out.symm, EW2.out⟩
      | false =>
      have HVT4 : Hid (R = if smpF x.smp ≠ 0 then smpF x.smp else if 50 < en then 2 else edF xe) := hide (by rw [HVT3.out, if_neg (by simp [hsc])])
      rw [hsc] at HNS
      clear hsc HVT3
      go_wp2_with fail
      with_reducible refine (HNS.out _).mono ?_
      rintro e w' ⟨rfl, rfl⟩
      clear x1
      have x2 : w2.cell? ⟨xb, 2, none⟩ = some (.slice sA sn sc) := XB.out.cell 2
      generalize smpF x.smp = sf at *
      go_wp2_with fail
      with_reducible refine (HKS.out _ EW2.out).mono ?_
      rintro e w3 ⟨rfl, e3⟩
      have EW3 := hide (Ext.trans EW2.out e3)
      have XC := hide (XB.out.ext e3)
      clear e3 x2 XB HKS
      by_cases hsf : sf = 0
      rotate_left
      · have HE : Hid (R = sf) := hide (by rw [HVT4.out, if_pos hsf])
        have d0 : (sf != 0) = true := by simp [hsf]
        clear hsf
        go_wp2_with fail
        go_ret
        exact ⟨ret_int HE.out.symm, EW3.out⟩
      have HVT5 : Hid (R = if 50 < en then 2 else edF xe) := hide (by rw [HVT4.out, if_neg (by simp [hsf])])
      subst hsf
      have x3 : w3.cell? ⟨xb, 3, none⟩ = some (.slice eA en ec) := XC.out.cell 3
      clear HVT4
      by_cases h50 : 50 < en
      · have HE : Hid (R = 2) := hide (by rw [HVT5.out, if_pos h50])
        have g1 : (50 : Int) < (en : Int) := by omega
        clear h50
        go_wp2_with fail
        go_ret
        exact ⟨ret_int HE.out.symm, EW3.out⟩
      have HVT6 : Hid (R = edF xe) := hide (by rw [HVT5.out, if_neg h50])
      have g1 : ¬ (50 : Int) < (en : Int) := by omega
      have hen : en ≤ 50 := by omega
      clear h50 HVT5
      go_wp2_with fail
      clear g1 x3
      go_loopw [8, 9] (fun ra ri wr => ∃ k : Nat, k ≤ en ∧ ri = .int .i64 k ∧ ra = .int .i64 (sumE (xe.take k)) ∧ Hid (∀ j, j < k → badE (xe.getD j (0, 0)) = false) ∧ Hid (Ext w3 wr)) (fun _ ri _ => en - (intOf ri).toNat)
      case atStart => exact ⟨0, by omega, rfl, by simp [sumE], hide (fun j hj => absurd hj (Nat.not_lt_zero _)), hide (Ext.refl _)⟩
      case round =>
        obtain ⟨q, hq, rfl, rfl, HB, HY⟩ := hrel
        have x3 : wr.cell? ⟨xb, 3, none⟩ = some (.slice eA en ec) := HY.out.cell (XC.out.cell 3)
        by_cases hql : q < en
        · obtain ⟨b2, o2, rfl, _⟩ := HS2.out.addr (by omega)
          have hat := HS2.out.ext (Ext.trans EW3.out HY.out)
          obtain ⟨a0, a1⟩ := hat.pair hql
          have hsu := sumE_take (l := xe) (k := q) (by have := HEL.out; omega)
          have HSU := hide hsu
          have hbd : 0 ≤ sumE (xe.take q) ∧ sumE (xe.take q) ≤ 1000000000000000 * (q : Int) := by
            have h1 : ∀ k, k < (xe.take q).length → badE ((xe.take q).getD k (0, 0)) = false := fun k hk => by
              have hkq : k < q := by rw [List.length_take] at hk; omega
              have := HB.out k hkq
              simp only [List.getD_eq_getElem?_getD, List.getElem?_take, hkq, if_true] at this ⊢
              exact this
            have h2 := sumE_bd h1 q (by rw [List.length_take]; have := HEL.out; omega)
            rwa [List.take_take, Nat.min_self] at h2
          have HBAD := hide (fun hb => edF_bad (l := xe) (k := q) (by have := HEL.out; omega) hb)
          have HNX : Hid (badE (xe.getD q (0, 0)) = false → ∀ j, j < q + 1 → badE (xe.getD j (0, 0)) = false) := hide (fun hb j hj => by
            rcases Nat.lt_succ_iff_lt_or_eq.1 hj with h | h
            · exact HB.out j h
            · rw [h]; exact hb)
          have HBV : Hid (badE (xe.getD q (0, 0)) = (decide ((xe.getD q (0, 0)).1 < 1 ∨ 1000000000000000 < (xe.getD q (0, 0)).1) || decide ((xe.getD q (0, 0)).2 < -1 ∨ 1000000000000000 < (xe.getD q (0, 0)).2))) := hide rfl
          generalize badE (xe.getD q (0, 0)) = bb at *
          generalize (xe.getD q (0, 0)).1 = p at *
          generalize (xe.getD q (0, 0)).2 = r at *
          generalize sumE (xe.take q) = S at *
          have j1 : (q : Int) < (en : Int) := by omega
          have j0 : (0 : Int) ≤ (q : Int) := by omega
          clear hat hsu
          by_cases hp : p < 1 ∨ 1000000000000000 < p
          · have HE : Hid (R = 1) := hide (by rw [HVT6.out, HBAD.out (by rw [HBV.out, decide_eq_true hp]; rfl)])
            have HO1 := hide (fun (W : World) => within_no hp W)
            clear hp hbd
            go_wp2_with fail
            with_reducible refine (HO1.out _).mono ?_
            rintro e w' ⟨rfl, rfl⟩
            go_wp2_with fail
            go_ret
            exact ⟨ret_int HE.out.symm, Ext.trans EW3.out HY.out⟩
          have HO1 := hide (fun (W : World) => within_yes (n := p) (lo := 1) (hi := 1000000000000000) (by omega) W)
          by_cases hr : r < -1 ∨ 1000000000000000 < r
          · have HE : Hid (R = 1) := hide (by rw [HVT6.out, HBAD.out (by rw [HBV.out, decide_eq_true hr, Bool.or_true])])
            have HO2 := hide (fun (W : World) => within_no hr W)
            clear hp hr hbd
            go_wp2_with fail
            with_reducible refine (HO1.out _).mono ?_
            rintro e w' ⟨rfl, rfl⟩
            go_wp2_with fail
            with_reducible refine (HO2.out _).mono ?_
            rintro e w' ⟨rfl, rfl⟩
            go_wp2_with fail
            go_ret
            exact ⟨ret_int HE.out.symm, Ext.trans EW3.out HY.out⟩
          have HO2 := hide (fun (W : World) => within_yes (n := r) (lo := -1) (hi := 1000000000000000) (by omega) W)
          have HB2 := hide (HNX.out (by rw [HBV.out, decide_eq_false hp, decide_eq_false hr]; rfl))
          have hp2 : 1 ≤ p ∧ p ≤ 1000000000000000 := by omega
          have j9 : IntKind.i64.wrap (S + p) = S + p := by rw [IntKind.wrap_i64]; omega
          have hsl : S ≤ 50000000000000000 := by omega
          have hs0 := hbd.1
          clear hp hr hbd HBAD HNX HBV
          go_wp2_with fail
          with_reducible refine (HO1.out _).mono ?_
          rintro e w' ⟨rfl, rfl⟩
          go_wp2_with fail
          with_reducible refine (HO2.out _).mono ?_
          rintro e w' ⟨rfl, rfl⟩
          go_wp2_with fail
          exact ⟨⟨q + 1, by omega, by go_num, int_val HSU.out.symm, HB2, HY⟩, by simp [intOf]; omega⟩
        · obtain rfl : q = en := by omega
          have HTK : Hid (xe.take q = xe) := hide (by rw [← HEL.out, List.take_length])
          have HE := hide (edF_good (l := xe) (fun k hk => HB.out k (by have := HEL.out; omega)))
          rw [← HTK.out] at HE
          have HE2 : Hid (R = if 1000000000000000 < sumE (xe.take q) then 1 else 0) := hide (by rw [HVT6.out, ← HE.out, HTK.out])
          clear HE HTK
          generalize sumE (xe.take q) = S at *
          have EWL := hide (Ext.trans EW3.out HY.out)
          by_cases hS : 1000000000000000 < S
          · have HE : Hid (R = 1) := hide (by rw [HE2.out, if_pos hS])
            clear hql
            go_wp2_with fail
            go_ret
            exact ⟨ret_int HE.out.symm, EWL.out⟩
          · have HE : Hid (R = 0) := hide (by rw [HE2.out, if_neg hS])
            clear hql
            go_wp2_with fail
            go_ret
            exact ⟨ret_int HE.out.symm, EWL.out⟩
set_option linter.unusedVariables false in
set_option maxRecDepth 100000 in
set_option maxHeartbeats 8000000 in
theorem refFilm_any {sc : Int} {A : Option Addr} {n c : Nat} {hs : List TrkH} {l : List TrkT} {w : World} (h : TksAt w A n c hs l) (hn : nmF l) :
    Calls Try.prog 21 #[.agg #[.int .i64 sc, .slice A n c]] w fun e w' => e = .returned (.int .i64 (filF sc l)) ∧ Ext w w' := by
  have HVT : Hid (filF sc l = if badSc sc = true then 1 else if 8 < n then 2 else firstF (fun i => trF (l.getD i default) (l.take i)) n) := hide (by unfold filF; rw [h.len])
  have HNS := hide (fun (W : World) => isScale1_any sc W)
  have HTF := hide (fun (W : World) (i : Nat) (hW : Ext w W) (hi : i < n) => checkTrack_any (h.ext hW) hi hn)
  have hnb := h.at_.bound
  have X0 := hide (Blk.new w 24 #[.int .i64 sc, .slice A n c])
  have E0 := hide (Ext.alloc w (.cells #[.int .i64 sc, .slice A n c] 24))
  clear h hn
  generalize filF sc l = R at *
  go_enter Try.func21, Try.ntmps21
  go_upto_region 1 with (fail)
  refine gen_wpC fun w0 h0 => ?_
  rw [← h0] at X0 E0
  obtain ⟨xb, hxb⟩ : ∃ xb, xb = w.heap.size := ⟨_, rfl⟩
  rw [← hxb] at X0 ⊢
  clear h0 hxb
  have x0 : w0.cell? ⟨xb, 0, none⟩ = some (.int .i64 sc) := X0.out.cell 0
  have x1 : w0.cell? ⟨xb, 1, none⟩ = some (.slice A n c) := X0.out.cell 1
  cases hsc : badSc sc with
  | true =>
    have HE : Hid (R = 1) := hide (by rw [HVT.out, if_pos hsc])
    rw [hsc] at HNS
    clear hsc
    go_wp2_with fail
    with_reducible refine (HNS.out _).mono ?_
    rintro e w' ⟨rfl, rfl⟩
    go_wp2_with fail
    go_ret
    exact ⟨ret_int HE.out.symm, E0.out⟩
  | false =>
  have HVT2 : Hid (R = if 8 < n then 2 else firstF (fun i => trF (l.getD i default) (l.take i)) n) := hide (by rw [HVT.out, if_neg (by simp [hsc])])
  rw [hsc] at HNS
  clear hsc HVT
  by_cases h8 : 8 < n
  · have HE : Hid (R = 2) := hide (by rw [HVT2.out, if_pos h8])
    have g1 : (8 : Int) < (n : Int) := by omega
    clear h8
    go_wp2_with fail
    with_reducible refine (HNS.out _).mono ?_
    rintro e w' ⟨rfl, rfl⟩
    go_wp2_with fail
    go_ret
    exact ⟨ret_int HE.out.symm, E0.out⟩
  have HVT3 : Hid (R = firstF (fun i => trF (l.getD i default) (l.take i)) n) := hide (by rw [HVT2.out, if_neg h8])
  have g1 : ¬ (8 : Int) < (n : Int) := by omega
  clear HVT2 h8
  go_wp2_with fail
  with_reducible refine (HNS.out _).mono ?_
  rintro e w' ⟨rfl, rfl⟩
  go_wp2_with fail
  clear x0 HNS g1 x1
  go_loopw [3] (fun ri wr => ∃ k : Nat, k ≤ n ∧ ri = .int .i64 k ∧ Hid (∀ j, j < k → trF (l.getD j default) (l.take j) = 0) ∧ Hid (Ext w0 wr)) (fun ri _ => n - (intOf ri).toNat)
  case atStart => exact ⟨0, by omega, rfl, hide (fun j hj => absurd hj (Nat.not_lt_zero _)), hide (Ext.refl _)⟩
  case round =>
    obtain ⟨k, hk, rfl, HA, HX⟩ := hrel
    have x1 : wr.cell? ⟨xb, 1, none⟩ = some (.slice A n c) := HX.out.cell (X0.out.cell 1)
    by_cases hlt : k < n
    · have HTK := hide (HTF.out wr k (Ext.trans E0.out HX.out) hlt)
      have HFI : Hid (trF (l.getD k default) (l.take k) ≠ 0 → firstF (fun i => trF (l.getD i default) (l.take i)) n = trF (l.getD k default) (l.take k)) := hide (fun hb => firstF_at (g := fun i => trF (l.getD i default) (l.take i)) (i := k) (fun j hj => HA.out j hj) hb hlt)
      have HNX : Hid (trF (l.getD k default) (l.take k) = 0 → ∀ j, j < k + 1 → trF (l.getD j default) (l.take j) = 0) := hide (fun hb j hj => by
        rcases Nat.lt_succ_iff_lt_or_eq.1 hj with h | h
        · exact HA.out j h
        · rw [h]; exact hb)
      generalize trF (l.getD k default) (l.take k) = F at *
      have i1 : (k : Int) < (n : Int) := by omega
      have i0 : (0 : Int) ≤ (k : Int) := by omega
      go_wp2_with fail
      with_reducible refine HTK.out.mono ?_
      rintro e w6 ⟨rfl, e6⟩
      have E6 := hide (Ext.trans HX.out e6)
      clear e6 x1
      by_cases hF : F = 0
      · have HA2 := hide (HNX.out hF)
        subst hF
        go_wp2_with fail
        exact ⟨⟨k + 1, by omega, by go_num, HA2, E6⟩, by simp [intOf]; omega⟩
      · have HE : Hid (R = F) := hide (by rw [HVT3.out]; exact HFI.out hF)
        have d0 : (F != 0) = true := by simp [hF]
        clear hF
        go_wp2_with fail
        go_ret
        exact ⟨ret_int HE.out.symm, Ext.trans E0.out E6.out⟩
    · obtain rfl : k = n := by omega
      have HE : Hid (R = 0) := hide (by rw [HVT3.out]; exact firstF_zero HA.out)
      clear hlt
      go_wp2_with fail
      go_ret
      exact ⟨ret_int HE.out.symm, Ext.trans E0.out HX.out⟩
end Go.Proofs.Ytlonhkjplijlcaa
