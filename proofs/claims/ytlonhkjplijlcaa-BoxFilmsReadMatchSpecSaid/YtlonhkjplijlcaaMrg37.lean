/- Several texts in one: Walks: numbers out of bytes, kinds, stop (reference). Conditions as stated; What the reference's run gives: trees of places, two rows that grow side by side. No condition. -/
import Derived.Test.YtlonhkjplijlcaaMrg01
import Derived.Test.YtlonhkjplijlcaaMrg00
import Derived.Deep.DeepCutAuto
import Derived.Test.YtlonhkjplijlcaaMrg04
namespace Go.Proofs.Ytlonhkjplijlcaa
open Go.RowKit
set_option maxRecDepth 100000 in
set_option maxHeartbeats 2000000 in
theorem isKindR_any (s : ByteArray) (w : World) (hs : s.size ≤ maxLen) :
    Calls Try.prog 87 #[.string s] w fun e w' => e = .returned (.bool (isKindB s.data.toList)) ∧ w = w' := by
  unfold maxLen at hs
  have hsz : s.data.toList.length = s.size := by simp
  have HY : Hid (s.data.toList.all kindC = true → isKindB s.data.toList = ((s.size : Int) == 4)) := hide (fun h => by unfold isKindB; rw [hsz, h]; simp; rw [Bool.eq_iff_iff]; simp; omega)
  have HN : Hid (s.data.toList.all kindC = false → isKindB s.data.toList = false) := hide (fun h => by unfold isKindB; rw [h]; simp)
  have HTK : Hid (s.data.toList.take s.size = s.data.toList) := hide (by rw [← hsz, List.take_length])
  clear hsz
  go_enter Try.func87, Try.ntmps87
  go_wp2_with fail
  go_loop [3] (fun ri => ∃ k : Nat, k ≤ s.size ∧ ri = .int .i64 k ∧ Hid ((s.data.toList.take k).all kindC = true)) (fun ri => s.size - (intOf ri).toNat)
  case atStart => exact ⟨0, by omega, rfl, hide (by simp)⟩
  case round =>
    obtain ⟨k, hk, rfl, HA⟩ := hrel
    by_cases hlt : k < s.size
    · have HS := hide (all_take_succ hlt)
      have HNO : Hid (kindC s[k] = false → isKindB s.data.toList = false) := hide (fun h => HN.out (all_no hlt h))
      have i1 : (k : Int) < (s.size : Int) := by omega
      by_cases hl : 97 ≤ s[k].toNat ∧ s[k].toNat ≤ 122
      · have HK : Hid ((s.data.toList.take (k + 1)).all kindC = true) := hide (by rw [HS.out, HA.out]; simp [kindC, hl])
        have g1 : (97 : Int) ≤ (s[k].toNat : Int) := by omega
        have g2 : (s[k].toNat : Int) ≤ 122 := by omega
        clear hl
        go_wp2_with fail
        exact ⟨⟨k + 1, by omega, by go_num, HK⟩, by simp [intOf]; omega⟩
      · by_cases hd : 48 ≤ s[k].toNat ∧ s[k].toNat ≤ 57
        · have HK : Hid ((s.data.toList.take (k + 1)).all kindC = true) := hide (by rw [HS.out, HA.out]; simp [kindC, hd])
          have g1 : ¬ (97 : Int) ≤ (s[k].toNat : Int) := by omega
          have g2 : (48 : Int) ≤ (s[k].toNat : Int) := by omega
          have g3 : (s[k].toNat : Int) ≤ 57 := by omega
          clear hl hd
          go_wp2_with fail
          exact ⟨⟨k + 1, by omega, by go_num, HK⟩, by simp [intOf]; omega⟩
        · have HV : Hid (isKindB s.data.toList = false) := hide (HNO.out (by simp [kindC]; omega))
          by_cases hc1 : 97 ≤ s[k].toNat
          · have g1 : (97 : Int) ≤ (s[k].toNat : Int) := by omega
            have g2 : ¬ (s[k].toNat : Int) ≤ 122 := by omega
            have g3 : (48 : Int) ≤ (s[k].toNat : Int) := by omega
            have g4 : ¬ (s[k].toNat : Int) ≤ 57 := by omega
            clear hd hl hc1
            go_wp2_with fail
            go_ret
            exact ⟨by rw [HV.out]; rfl, rfl⟩
          · have g1 : ¬ (97 : Int) ≤ (s[k].toNat : Int) := by omega
            by_cases hc2 : 48 ≤ s[k].toNat
            · have g3 : (48 : Int) ≤ (s[k].toNat : Int) := by omega
              have g4 : ¬ (s[k].toNat : Int) ≤ 57 := by omega
              clear hd hl hc1 hc2
              go_wp2_with fail
              go_ret
              exact ⟨by rw [HV.out]; rfl, rfl⟩
            · have g3 : ¬ (48 : Int) ≤ (s[k].toNat : Int) := by omega
              clear hd hl hc1 hc2
              go_wp2_with fail
              go_ret
              exact ⟨by rw [HV.out]; rfl, rfl⟩
    · obtain rfl : k = s.size := by omega
      have HV : Hid (isKindB s.data.toList = ((s.size : Int) == 4)) := hide (HY.out (by rw [← HTK.out]; exact HA.out))
      have i1 : ¬ (s.size : Int) < (s.size : Int) := by omega
      go_wp2_with fail
      go_ret
      exact ⟨by rw [HV.out]; rfl, rfl⟩
theorem nests_any (l : List UInt8) (w : World) : Calls Try.prog 88 #[.string ⟨l.toArray⟩] w fun e w' => e = .returned (.bool (hasKidsB l)) ∧ w = w' := by
  go_enter Try.func88, Try.ntmps88
  go_wp2_with fail
  all_goals
    go_ret
    exact ⟨ret_bool (by unfold hasKidsB kFilm kTrck kFrag; simp [*]), rfl⟩
/-- The number that the reference takes bytes for. -/
def numR (l : List UInt8) : Nat := if l.length = 8 ∧ 18014398509481984 ≤ numB (l.take 7) then 4611686018427387904 else numB l
theorem numR_small {l : List UInt8} (h : l.length < 8) : numR l = numB l := by unfold numR; rw [if_neg (by omega)]
theorem numR_cap {l : List UInt8} (h : l.length = 8) (n : Nat) (hn : n < 4611686018427387904) : (numR l ≤ n ↔ numB l ≤ n) ∧ ∀ m, m < 4611686018427387904 → (numR l = m ↔ numB l = m) := by
  unfold numR
  have e : l = l.take 7 ++ [l[7]] := by
    conv => lhs; rw [← List.take_append_drop 7 l]
    congr 1
    rw [List.drop_eq_getElem_cons (by omega), List.drop_of_length_le (by omega)]
  have e2 : numB l = numB (l.take 7) * 256 + (l[7]).toNat := by
    conv => lhs; rw [e]
    exact numB_snoc _ _
  by_cases hc : l.length = 8 ∧ 18014398509481984 ≤ numB (l.take 7)
  · rw [if_pos hc]; exact ⟨by omega, fun m hm => by omega⟩
  · rw [if_neg hc]; exact ⟨Iff.rfl, fun m hm => Iff.rfl⟩
set_option maxRecDepth 100000 in
set_option maxHeartbeats 1000000 in
theorem number_any {A : Option Addr} {n c : Nat} {l : List UInt8} {w : World} (h : At w 1 e8 A n c l) (hn : n ≤ 8) :
    Calls Try.prog 62 #[.slice A n c] w fun e w' => e = .returned (.int .i64 (numR l)) ∧ w = w' := by
  have hl := h.len
  have H := hide h
  have HL := hide hl
  clear h hl
  go_enter Try.func62, Try.ntmps62
  go_wp2_with fail
  go_loop [3, 4] (fun rn ri => ∃ k : Nat, k ≤ n ∧ ri = .int .i64 k ∧ rn = .int .i64 (numB (l.take k)) ∧ Hid (∀ j, j < k → numB (l.take j) < 18014398509481984)) (fun _ ri => n - (intOf ri).toNat)
  case atStart => exact ⟨0, by omega, rfl, rfl, hide (fun j hj => by omega)⟩
  case round =>
    obtain ⟨k, hk, rfl, rfl, HJ⟩ := hrel
    by_cases hlt : k < n
    · obtain ⟨b, off, rfl, _⟩ := H.out.addr (by omega)
      have hkl : k < l.length := by have := HL.out; omega
      have c1 := H.out.byte hkl
      have i1 : (k : Int) < (n : Int) := by omega
      have hst := numB_take hkl
      have hlt2 := numB_lt k (l.take k) (by rw [List.length_take]; omega)
      by_cases hbig : 18014398509481984 ≤ numB (l.take k)
      · have hk7 : k = 7 := by
          have : ¬ k ≤ 6 := fun h6 => by
            have : 256 ^ k ≤ 256 ^ 6 := Nat.pow_le_pow_right (by omega) h6
            omega
          omega
        have HV : Hid (numR l = 4611686018427387904) := hide (by unfold numR; rw [if_pos ⟨by have := HL.out; omega, by rw [← hk7]; exact hbig⟩])
        generalize numB (l.take k) = q at *
        have i2 : (18014398509481984 : Int) ≤ (q : Int) := by omega
        clear hlt2 hst hbig hk7
        go_wp2_with fail
        go_ret
        exact ⟨by rw [HV.out]; rfl, rfl⟩
      · have HJ2 : Hid (∀ j, j < k + 1 → numB (l.take j) < 18014398509481984) := hide (fun j hj => by
          rcases Nat.lt_succ_iff_lt_or_eq.1 hj with h | h
          · exact HJ.out j h
          · rw [h]; omega)
        generalize numB (l.take k) = q at *
        have hb := (l[k]).toNat_lt
        have i2 : ¬ (18014398509481984 : Int) ≤ (q : Int) := by omega
        have u1 : IntKind.i64.wrap ((q : Int) * 256) = (q : Int) * 256 := by rw [IntKind.wrap_i64]; omega
        have u2 : IntKind.i64.wrap ((q : Int) * 256 + (l[k].toNat : Int)) = (q : Int) * 256 + (l[k].toNat : Int) := by rw [IntKind.wrap_i64]; omega
        have HST : Hid ((q : Int) * 256 + (l[k].toNat : Int) = (numB (l.take (k + 1)) : Int)) := hide (by rw [hst]; push_cast; rfl)
        clear hlt2 hst hbig
        go_wp2_with fail
        exact ⟨⟨k + 1, by omega, by go_num, by rw [HST.out], HJ2⟩, by simp [intOf]; omega⟩
    · obtain rfl : n = k := by omega
      have HE : Hid (l.take n = l) := hide (by rw [← HL.out, List.take_length])
      have HV : Hid (numR l = numB l) := hide (by
        unfold numR
        rw [if_neg]
        rintro ⟨h8, h9⟩
        have := HJ.out 7 (by have := HL.out; omega)
        omega)
      have i1 : ¬ (n : Int) < (n : Int) := by omega
      go_wp2_with fail
      go_ret
      exact ⟨by rw [HV.out, HE.out]; rfl, rfl⟩
theorem stop_any {gp : Nat} {A : Option Addr} {n c : Nat} {cnt : Int} {f : Int} {at_ : Int} {w : World} (hp : Blk w gp 123 #[.slice A n c, .int .i64 cnt, .int .i64 0, .int .i64 0]) :
    Calls Try.prog 86 #[.pointer (some ⟨gp, 0, none⟩), .int .i64 f, .int .i64 at_] w fun e w' => e = .returned (.slice none 0 0) ∧ Blk w' gp 123 #[.slice A n c, .int .i64 cnt, .int .i64 at_, .int .i64 f] ∧ Tw w w' gp none := by
  have P := hide hp
  have p3 : w.cell? ⟨gp, 3, none⟩ = some (.int .i64 0) := hp.cell 3
  have z3 : w.frozen? ⟨gp, 3, none⟩ = false := hp.frozen 3
  have z2 : w.frozen? ⟨gp, 2, none⟩ = false := hp.frozen 2
  have p2 : w.cell? ⟨gp, 2, none⟩ = some (.int .i64 0) := hp.cell 2
  clear hp
  go_enter Try.func86, Try.ntmps86
  go_wp2_with fail
  go_ret
  exact ⟨rfl, (P.out.set_ 3 _).set_ 2 _, (Tw.set_ _ _ _ _ _).trans (Tw.set_ _ _ _ _ _)⟩
end Go.Proofs.Ytlonhkjplijlcaa
namespace Go.Proofs.Ytlonhkjplijlcaa
open Go.RowKit
/-- The cells of a place. -/
structure PlH where
  kind : List UInt8
  beg : Nat
  dat : Nat
  en : Nat
  kA : Option Addr
  kn : Nat
  kc : Nat
deriving Inhabited
abbrev ePl (x : PlH) : List Value := [.string ⟨x.kind.toArray⟩, .int .i64 (x.beg : Int), .int .i64 (x.dat : Int), .int .i64 (x.en : Int), .slice x.kA x.kn x.kc]
theorem len_ePl (x : PlH) : (ePl x).length = 5 := rfl
theorem one_ePl (x : PlH) : ∀ u ∈ ePl x, u.oneCell' = true := by
  intro u hu
  simp at hu
  rcases hu with rfl | rfl | rfl | rfl | rfl <;> rfl
def PlHd (y : PlH) (x : NodeT) : Prop := y.kind = x.kind ∧ y.beg = x.beg ∧ y.dat = x.dat ∧ y.en = x.en
inductive PlsAt (w : World) (G : Nat → Prop) : Option Addr → Nat → Nat → List NodeT → Prop
  | mk {A : Option Addr} {n c : Nat} (hs : List PlH) (l : List NodeT) (h : At w 5 ePl A n c hs) (hg : InG G A) (hl : hs.length = l.length)
      (h1 : ∀ (i : Nat) (y : PlH) (x : NodeT), hs[i]? = some y → l[i]? = some x → PlHd y x) (h2 : ∀ (i : Nat) (y : PlH) (x : NodeT), hs[i]? = some y → l[i]? = some x → PlsAt w G y.kA y.kn y.kc x.kids) : PlsAt w G A n c l
def PlOk (w : World) (G : Nat → Prop) (y : PlH) (x : NodeT) : Prop := PlHd y x ∧ PlsAt w G y.kA y.kn y.kc x.kids
theorem PlsAt.good {w w' : World} {G H : Nat → Prop} (hG : ∀ k, G k → w'.heap[k]? = w.heap[k]?) (hi : ∀ k, G k → H k) {A : Option Addr} {n c : Nat} {l : List NodeT} (h : PlsAt w G A n c l) : PlsAt w' H A n c l := by
  induction h with
  | mk hs l h hg hl h1 _ ih => exact .mk hs l (h.good hg hG) (hg.mono hi) hl h1 ih
theorem PlOk.good {w w' : World} {G H : Nat → Prop} {y : PlH} {x : NodeT} (h : PlOk w G y x) (hG : ∀ k, G k → w'.heap[k]? = w.heap[k]?) (hi : ∀ k, G k → H k) : PlOk w' H y x :=
  ⟨h.1, h.2.good hG hi⟩
theorem PlsAt.nil (w : World) (G : Nat → Prop) : PlsAt w G none 0 0 [] :=
  .mk [] [] (At.nil _ _ _) (fun a h => by cases h) rfl (fun i y x hy _ => by simp at hy) (fun i y x hy _ => by simp at hy)
/-- Boxes and places in two rows that the call owns. -/
structure Rw2 (w : World) (b : List UInt8) (B : Nat) (v1 v2 : Value) (hs1 : List BoxH) (hs2 : List PlH) (l : List NodeT) : Prop where
  own1 : Own w B 47 4 eBx v1 hs1
  own2 : Own w B 87 5 ePl v2 hs2
  len1 : hs1.length = l.length
  len2 : hs2.length = l.length
  dis : ∀ k, v1.ownBlock = some k → v2.ownBlock ≠ some k
  els : ∃ G : Nat → Prop, (∀ k, G k → B ≤ k ∧ k < w.heap.size ∧ v1.ownBlock ≠ some k ∧ v2.ownBlock ≠ some k) ∧ (∀ (i : Nat) (y : BoxH) (x : NodeT), hs1[i]? = some y → l[i]? = some x → BxOk w G y (boxOf b x)) ∧ (∀ (i : Nat) (y : PlH) (x : NodeT), hs2[i]? = some y → l[i]? = some x → PlOk w G y x)
theorem Rw2.nil (w : World) (b : List UInt8) (B : Nat) : Rw2 w b B (.slice none 0 0) (.slice none 0 0) [] [] [] :=
  ⟨Own.nil _ _ _ _ _, Own.nil _ _ _ _ _, rfl, rfl, (fun k e => by cases e), fun _ => False, (fun k h => h.elim), (fun i y x hy _ => by simp at hy), fun i y x hy _ => by simp at hy⟩
theorem Rw2.tw {w w' : World} {b : List UInt8} {B o : Nat} {v1 v2 : Value} {hs1 : List BoxH} {hs2 : List PlH} {l : List NodeT} (h : Rw2 w b B v1 v2 hs1 hs2 l) (hT : Tw w w' o none) (ho : o < B) : Rw2 w' b B v1 v2 hs1 hs2 l := by
  obtain ⟨h1, h2, h3, h4, h5, G, h6, h7, h8⟩ := h
  have hb : ∀ k, G k → w'.heap[k]? = w.heap[k]? := fun k hk => hT.block k (h6 k hk).2.1 (by have := (h6 k hk).1; omega) (by simp)
  exact ⟨h1.tw hT (fun e => by have := (h1.lt o e).1; omega) (fun g hg e => by cases e), h2.tw hT (fun e => by have := (h2.lt o e).1; omega) (fun g hg e => by cases e), h3, h4, h5, G,
    (fun k hk => ⟨(h6 k hk).1, Nat.lt_of_lt_of_le (h6 k hk).2.1 hT.size, (h6 k hk).2.2⟩), (fun i y x hy hx => (h7 i y x hy hx).good hb (fun _ hk => hk)), fun i y x hy hx => (h8 i y x hy hx).good hb (fun _ hk => hk)⟩
/-- The second row behind a growth of the first one. -/
theorem Rw2.own2at {w wa w6 : World} {b : List UInt8} {B : Nat} {v1 v2 : Value} {hs1 : List BoxH} {hs2 : List PlH} {l : List NodeT} (h : Rw2 w b B v1 v2 hs1 hs2 l) (he : Ext w wa) (hg : wa.grownBy w6 v1.ownBlock) : Own w6 B 87 5 ePl v2 hs2 := by
  refine (h.own2.ext he).tw (Tw.of_grown (o := wa.heap.size) hg) (fun e => ?_) (fun g e e2 => h.dis g e2 e)
  have := (h.own2.lt _ e).2
  have := he.size
  omega
theorem Rw2.snoc {w wa w6 wb w8 : World} {b : List UInt8} {B : Nat} {v1 v2 v1' v2' : Value} {hs1 : List BoxH} {hs2 : List PlH} {l : List NodeT} {y1 : BoxH} {y2 : PlH} {x : NodeT} {G' : Nat → Prop} (h : Rw2 w b B v1 v2 hs1 hs2 l)
    (hy1 : BxOk w G' y1 (boxOf b x)) (hy2 : PlOk w G' y2 x) (hG : ∀ k, G' k → B ≤ k ∧ k < w.heap.size ∧ v1.ownBlock ≠ some k ∧ v2.ownBlock ≠ some k)
    (he : Ext w wa) (ho1 : Own w6 B 47 4 eBx v1' (hs1 ++ [y1])) (hg1 : wa.grownBy w6 v1.ownBlock) (hr1 : v1'.ownBlock = v1.ownBlock ∨ v1'.ownBlock = some wa.heap.size)
    (he2 : Ext w6 wb) (ho2 : Own w8 B 87 5 ePl v2' (hs2 ++ [y2])) (hg2 : wb.grownBy w8 v2.ownBlock) (hr2 : v2'.ownBlock = v2.ownBlock ∨ v2'.ownBlock = some wb.heap.size) :
    Rw2 w8 b B v1' v2' (hs1 ++ [y1]) (hs2 ++ [y2]) (l ++ [x]) := by
  obtain ⟨h1, h2, h3, h4, h5, G, h6, h7, h8⟩ := h
  have s1 := he.size
  have s2 := hg1.size
  have s3 := he2.size
  have s4 := hg2.size
  have l1 := h1.lt
  have l2 := h2.lt
  have l3 := ho1.lt
  have hb : ∀ k, k < w.heap.size → v1.ownBlock ≠ some k → v2.ownBlock ≠ some k → w8.heap[k]? = w.heap[k]? := fun k hk hn1 hn2 =>
    (hg2.block k (by omega) (fun e => hn2 e.symm)).trans ((he2.block k (by omega)).trans ((hg1.block k (by omega) (fun e => hn1 e.symm)).trans (he.block k hk)))
  have n21 : ∀ g, v1'.ownBlock = some g → v2.ownBlock ≠ some g := fun g hg e => by
    rcases hr1 with hr | hr
    · exact h5 g (by rw [← hr]; exact hg) e
    · rw [hr] at hg; injection hg with hg; have := (l2 g e).2; omega
  have ho1' : Own w8 B 47 4 eBx v1' (hs1 ++ [y1]) := by
    refine (ho1.ext he2).tw (Tw.of_grown (o := wb.heap.size) hg2) (fun e => ?_) (fun g e e2 => n21 g e e2)
    have := (l3 _ e).2; omega
  have hG2 : ∀ k, G k ∨ G' k → B ≤ k ∧ k < w.heap.size ∧ v1.ownBlock ≠ some k ∧ v2.ownBlock ≠ some k := fun k hk => by
    rcases hk with hk | hk
    · exact h6 k hk
    · exact hG k hk
  refine ⟨ho1', ho2, by simp [h3], by simp [h4], fun k e1 e2 => ?_, fun k => G k ∨ G' k, fun k hk => ?_, fun i y' x' hy' hx' => ?_, fun i y' x' hy' hx' => ?_⟩
  · rcases hr2 with hr | hr
    · exact n21 k e1 (by rw [← hr]; exact e2)
    · rw [hr] at e2; injection e2 with e2; have := (l3 k e1).2; omega
  · have hk2 := hG2 k hk
    refine ⟨hk2.1, by omega, ?_, ?_⟩
    · rcases hr1 with hr | hr
      · rw [hr]; exact hk2.2.2.1
      · rw [hr]; intro e; injection e with e; omega
    · rcases hr2 with hr | hr
      · rw [hr]; exact hk2.2.2.2
      · rw [hr]; intro e; injection e with e; omega
  · rcases get_snoc hy' with hy1' | ⟨hy1', rfl⟩
    · have hi := get_lt hy1'
      have hx1 : l[i]? = some x' := by
        rw [List.getElem?_append_left (by omega)] at hx'
        exact hx'
      exact (h7 i y' x' hy1' hx1).good (fun k hk => hb k (h6 k hk).2.1 (h6 k hk).2.2.1 (h6 k hk).2.2.2) (fun _ hk => .inl hk)
    · have hx1 : x' = x := by
        rcases get_snoc hx' with hx1 | ⟨_, hx1⟩
        · have := get_lt hx1; omega
        · exact hx1
      subst hx1
      exact hy1.good (fun k hk => hb k (hG k hk).2.1 (hG k hk).2.2.1 (hG k hk).2.2.2) (fun _ hk => .inr hk)
  · rcases get_snoc hy' with hy1' | ⟨hy1', rfl⟩
    · have hi := get_lt hy1'
      have hx1 : l[i]? = some x' := by
        rw [List.getElem?_append_left (by omega)] at hx'
        exact hx'
      exact (h8 i y' x' hy1' hx1).good (fun k hk => hb k (h6 k hk).2.1 (h6 k hk).2.2.1 (h6 k hk).2.2.2) (fun _ hk => .inl hk)
    · have hx1 : x' = x := by
        rcases get_snoc hx' with hx1 | ⟨_, hx1⟩
        · have := get_lt hx1; omega
        · exact hx1
      subst hx1
      exact hy2.good (fun k hk => hb k (hG k hk).2.1 (hG k hk).2.2.1 (hG k hk).2.2.2) (fun _ hk => .inr hk)
theorem Try.info87 : (Try.prog.info? 87).map (fun i => (i.zero, i.size, i.bytes)) = some (some (.agg #[.string ByteArray.empty, .int .i64 0, .int .i64 0, .int .i64 0, .slice none 0 0]), 5, 64) := by kernel_rfl
/-- What run gives. -/
def RunGives (w : World) (gp : Nat) (A : Option Addr) (n c : Nat) (b : List UInt8) (r : ParR) (e : Ending) (w' : World) : Prop :=
  Tw w w' gp none ∧
  (∀ a f, r = .err a f → (∃ cnt : Nat, Blk w' gp 123 #[.slice A n c, .int .i64 (cnt : Int), .int .i64 (a : Int), .int .i64 f]) ∧ e = .returned (.tuple #[.slice none 0 0, .slice none 0 0])) ∧
  (∀ l cc, r = .ok l cc → Blk w' gp 123 #[.slice A n c, .int .i64 (cc : Int), .int .i64 0, .int .i64 0] ∧ ∃ N c2 M c3, e = .returned (.tuple #[.slice N l.length c2, .slice M l.length c3]) ∧
    BxsAt w' (fun k => w.heap.size ≤ k ∧ k < w'.heap.size) N l.length c2 (boxesOf b l) ∧ PlsAt w' (fun k => w.heap.size ≤ k ∧ k < w'.heap.size) M l.length c3 l)
def RunStmt (m : Nat) : Prop := ∀ {gp f t depth cnt : Nat} {A : Option Addr} {n c : Nat} {b : List UInt8} {w : World}, t - f ≤ m → Blk w gp 123 #[.slice A n c, .int .i64 (cnt : Int), .int .i64 0, .int .i64 0] → At w 1 e8 A n c b → (0 < n → ∀ a, A = some a → a.block ≠ gp) →
  f ≤ t → t ≤ n → n ≤ 1000000 → depth ≤ 8 → cnt ≤ 2000 → Calls Try.prog 60 #[.pointer (some ⟨gp, 0, none⟩), .int .i64 (f : Int), .int .i64 (t : Int), .int .i64 (depth : Int)] w (RunGives w gp A n c b (parF b f t depth cnt))
theorem RunGives.bad {w w' : World} {gp : Nat} {A : Option Addr} {n c : Nat} {b : List UInt8} {r : ParR} {cnt a : Nat} {f : Int} (hr : r = .err a f) (hT : Tw w w' gp none) (hB : Blk w' gp 123 #[.slice A n c, .int .i64 (cnt : Int), .int .i64 (a : Int), .int .i64 f]) :
    RunGives w gp A n c b r (.returned (.tuple #[.slice none 0 0, .slice none 0 0])) w' :=
  ⟨hT, (fun a f h => by rw [hr] at h; cases h; exact ⟨⟨cnt, hB⟩, rfl⟩), fun l cc h => by rw [hr] at h; cases h⟩
/-- What is known at the head of run's loop. -/
structure RnI (w wr : World) (gp : Nat) (A : Option Addr) (n c : Nat) (b : List UInt8) (f t depth cnt g cn : Nat) (v1 v2 : Value) (hs1 : List BoxH) (hs2 : List PlH) (l : List NodeT) : Prop where
  f1 : f ≤ g
  f2 : g ≤ t
  cnle : cn ≤ 2000
  par : parF b f t depth cnt = (parF b g t depth cn).pre l
  few : l.length ≤ g
  blk : Blk wr gp 123 #[.slice A n c, .int .i64 (cn : Int), .int .i64 0, .int .i64 0]
  row : Rw2 wr b w.heap.size v1 v2 hs1 hs2 l
  tw : Tw w wr gp none
theorem RnI.fin {w wr : World} {gp : Nat} {A : Option Addr} {n c : Nat} {b : List UInt8} {f t depth cnt cn : Nat} {N M : Option Addr} {k c2 k3 c3 : Nat} {hs1 : List BoxH} {hs2 : List PlH} {l : List NodeT} (h : RnI w wr gp A n c b f t depth cnt t cn (.slice N k c2) (.slice M k3 c3) hs1 hs2 l) :
    RunGives w gp A n c b (parF b f t depth cnt) (.returned (.tuple #[.slice N k c2, .slice M k3 c3])) wr := by
  have hp : parF b f t depth cnt = .ok l cn := by rw [h.par, parF_end (Nat.le_refl _)]; simp [ParR.pre]
  have hat := h.row.own1.atS len_eBx
  have hat2 := h.row.own2.atS len_ePl
  have hk : l.length = k := by rw [← h.row.len1]; exact hat.len
  have hk3 : l.length = k3 := by rw [← h.row.len2]; exact hat2.len
  refine ⟨h.tw, (fun a f e => by rw [hp] at e; cases e), fun l' cc e => ?_⟩
  rw [hp] at e
  cases e
  obtain ⟨G, h6, h7, h8⟩ := h.row.els
  have hbx : ∀ (i : Nat) (y : BoxH) (x : BoxT), hs1[i]? = some y → (boxesOf b l)[i]? = some x → BxOk wr (fun q => w.heap.size ≤ q ∧ q < wr.heap.size) y x := by
    intro i y x hy hx
    rw [boxesOf_map, List.getElem?_map] at hx
    cases h9 : l[i]? with
    | none => rw [h9] at hx; cases hx
    | some z =>
      rw [h9] at hx
      cases hx
      exact (h7 i y z hy h9).good (fun _ _ => rfl) (fun q hq => ⟨(h6 q hq).1, (h6 q hq).2.1⟩)
  refine ⟨h.blk, N, c2, M, c3, by rw [hk, ← hk3, hk], ?_, ?_⟩
  · rw [hk]
    exact .mk hs1 _ hat (fun a ha => by subst ha; exact h.row.own1.lt a.block rfl) (by rw [boxesOf_map, List.length_map]; exact h.row.len1) (fun i y x hy hx => (hbx i y x hy hx).1) (fun i y x hy hx => (hbx i y x hy hx).2)
  · rw [hk3]
    exact .mk hs2 l hat2 (fun a ha => by subst ha; exact h.row.own2.lt a.block rfl) h.row.len2 (fun i y x hy hx => (h8 i y x hy hx).1) (fun i y x hy hx => (h8 i y x hy hx).2.good (fun _ _ => rfl) (fun q hq => ⟨(h6 q hq).1, (h6 q hq).2.1⟩))
end Go.Proofs.Ytlonhkjplijlcaa
