/- Walks: First, coded of the program. Conditions as stated. -/
import Derived.Test.YtifmgngmkajahaaCodA
namespace Go.Proofs.Ytifmgngmkajahaa
open Go.RowKit Kc

def codF (m c s : Int) (n1 n2 n : Nat) (l : List (Int × Int)) : Int := if schF m c s ≠ 0 then schF m c s else if modeF n1 n2 n ≠ 0 then modeF n1 n2 n else listF l (n : Int)
/-- First of two faults. -/
theorem first2_any {b off : Nat} {x y : Int} {w : World} (h0 : w.cell? ⟨b, off, none⟩ = some (.int .i64 x)) (h1 : w.cell? ⟨b, off + 1, none⟩ = some (.int .i64 y)) :
    Calls Try.prog 138 #[.slice (some ⟨b, off, none⟩) 2 2] w fun e w' => e = .returned (.int .i64 (if x ≠ 0 then x else y)) ∧ w = w' := by
  have HR : Hid (x = 0 → (if x ≠ 0 then x else y) = y) := hide (fun h => by rw [if_neg (by simpa using h)])
  have HS : Hid (x ≠ 0 → (if x ≠ 0 then x else y) = x) := hide (fun h => by rw [if_pos h])
  generalize (if x ≠ 0 then x else y) = r at *
  go_enter Try.func138, Try.ntmps138
  go_wp2_with fail
  go_loop [7] (fun ri => ri = .int .i64 0 ∨ (ri = .int .i64 1 ∧ Hid (x = 0)) ∨ (ri = .int .i64 2 ∧ Hid (x = 0) ∧ Hid (y = 0))) (fun ri => 2 - (intOf ri).toNat)
  case atStart => exact .inl rfl
  case round =>
    rcases hrel with rfl | ⟨rfl, HX⟩ | ⟨rfl, HX, HY⟩
    · by_cases hx : x = 0
      · have i1 : (x != 0) = false := by simp [hx]
        have HX := hide hx
        clear hx
        go_wp2
        go_round
        case rel => exact .inr (.inl ⟨rfl, HX⟩)
        case measure => simp [intOf]
      · have i1 : (x != 0) = true := by simp [hx]
        have HQ := hide (HS.out hx)
        clear hx
        go_wp2
        go_ret
        exact ⟨ret_int HQ.out.symm, rfl⟩
    · by_cases hy : y = 0
      · have i1 : (y != 0) = false := by simp [hy]
        have HY := hide hy
        clear hy
        go_wp2
        go_round
        case rel => exact .inr (.inr ⟨rfl, HX, HY⟩)
        case measure => simp [intOf]
      · have i1 : (y != 0) = true := by simp [hy]
        have HQ := hide (HR.out HX.out)
        clear hy
        go_wp2
        go_ret
        exact ⟨ret_int HQ.out.symm, rfl⟩
    · have HQ := hide ((HR.out HX.out).trans HY.out)
      go_wp2
      go_ret
      exact ⟨ret_int HQ.out.symm, rfl⟩

/-- What one step in place leaves. -/
def OnePost (back : Bool) (w : World) (base g N C off : Nat) (k last xs : List UInt8) (e : Ending) (w' : World) : Prop :=
  ∃ A' c', e = .returned (.slice A' 8 c') ∧ At w' 1 e8 A' 8 c' (stX back k ((xs.drop off).take 8) last).2 ∧
    Own w' base 5 1 e8 (.slice (some ⟨g, 0, none⟩) N C) (spl xs off (stX back k ((xs.drop off).take 8) last).1) ∧ w.grownBy w' (some g)
/-- The step's function. -/
def oneF (back : Bool) : Nat := if back = true then 91 else 90
theorem one_any (back : Bool) {A1 A2 : Option Addr} {c1 c2 : Nat} {k last xs : List UInt8} {w : World} {base g N C off : Nat} (h1 : At w 1 e8 A1 16 c1 k) (h2 : At w 1 e8 A2 8 c2 last)
    (ho : Own w base 5 1 e8 (.slice (some ⟨g, 0, none⟩) N C) xs) (hoff : off + 8 ≤ N) :
    Calls Try.prog (oneF back) #[.slice A1 16 c1, .slice A2 8 c2, .slice (some ⟨g, off, none⟩) (N - off) (C - off)] w (OnePost back w base g N C off k last xs) := by
  have hxl := ho.len len_e8
  cases back with
  | false =>
    refine (chain_own h1 h2 ho hoff).mono fun e w' ⟨he, o4, g4⟩ => ?_
    refine ⟨_, _, he, ?_, o4, g4⟩
    have hat := ho.atS len_e8
    have hle := hat.le
    have q := ((o4.atS len_e8).cutAt (k := off) (by omega) (by omega)).upto (k := 8) (by omega)
    rw [Nat.mul_one, Nat.zero_add] at q
    have hl8 : (encB k (xor8 ((xs.drop off).take 8) last)).length = 8 := rfl
    have e8' := spl_mid xs off (encB k (xor8 ((xs.drop off).take 8) last)) (by rw [hl8]; omega)
    rw [hl8] at e8'
    rw [e8'] at q
    exact q
  | true =>
    refine (unchain_own h1 h2 ho hoff).mono fun e w' h => ?_
    obtain ⟨A', c', he, ha, _, hO, hg⟩ := h
    exact ⟨A', c', he, ha, hO, hg⟩
/-- What is there while the parts are turned. -/
structure CodSt (w wr : World) (Ao : Option Addr) (g gs n C : Nat) (m c s : Int) (A1 : Option Addr) (c1 : Nat) (k v : List UInt8) (Ap : Option Addr) (np cp : Nat) (P : List (Int × Int)) (t : Nat) (xs : List UInt8) : Prop where
  own : Own wr w.heap.size 5 1 e8 (.slice Ao n C) xs
  ho : Ao = some ⟨g, 0, none⟩ ∨ Ao = none
  str : m = 1 → StreamAt wr gs (.slice A1 16 c1) k v t
  parts : At wr 2 e2 Ap np cp P
  box : Blk wr w.heap.size 57 #[.int .i64 m, .int .i64 c, .int .i64 s]
  ext : Ext w wr
  away : ∀ a, Ap = some a → a.block ≠ g ∧ a.block ≠ gs
  gw : w.heap.size < g ∧ w.heap.size < gs ∧ g ≠ gs
section
variable {w wr w' : World} {Ao : Option Addr} {g gs n C : Nat} {m c s : Int} {A1 : Option Addr} {c1 : Nat} {k v : List UInt8} {Ap : Option Addr} {np cp : Nat} {P : List (Int × Int)} {t : Nat} {xs : List UInt8}
theorem CodSt.next (h : CodSt w wr Ao g gs n C m c s A1 c1 k v Ap np cp P t xs) (he : Ext wr w') : CodSt w w' Ao g gs n C m c s A1 c1 k v Ap np cp P t xs :=
  ⟨h.own.ext he, h.ho, fun hm => (h.str hm).ext he, h.parts.ext he, h.box.ext he, Ext.trans h.ext he, h.away, h.gw⟩
theorem At.grownTo {α : Type} {sz : Nat} {enc : α → List Value} {A : Option Addr} {n c : Nat} {xs : List α} (h : At w sz enc A n c xs) {row : Option Nat} (hg : w.grownBy w' row)
    (hne : ∀ a, A = some a → some a.block ≠ row) : At w' sz enc A n c xs := At.grown h hg hne
theorem CodSt.wrote (h : CodSt w wr Ao g gs n C m c s A1 c1 k v Ap np cp P t xs) {ys : List UInt8} (ho : Own w' w.heap.size 5 1 e8 (.slice Ao n C) ys) (hg : wr.grownBy w' (some g)) : CodSt w w' Ao g gs n C m c s A1 c1 k v Ap np cp P t ys :=
  ⟨ho, h.ho, fun hm => by
      obtain ⟨blk, r, hB, hr⟩ := h.str hm
      exact ⟨blk, r, hB.grown hg (by have := h.gw; intro e; injection e with e; omega), hr⟩,
   h.parts.grown hg (fun a ha => by have := (h.away a ha).1; intro e; injection e with e; omega),
   h.box.grown hg (by have := h.gw; intro e; injection e with e; omega),
   Below.grown h.ext hg h.ext.size (fun q e => by injection e with e; have := h.gw; omega), h.away, h.gw⟩
theorem CodSt.some_ (h : CodSt w wr Ao g gs n C m c s A1 c1 k v Ap np cp P t xs) (hn : 0 < n) : Ao = some ⟨g, 0, none⟩ := by
  rcases h.ho with e | e
  · exact e
  · have ha := h.own.atS len_e8
    have := ha.none_ e
    have := ha.le
    omega
theorem CodSt.took (h : CodSt w wr Ao g gs n C m c s A1 c1 k v Ap np cp P t xs) {t' : Nat} (hs : StreamAt w' gs (.slice A1 16 c1) k v t') (hg : wr.grownBy w' (some gs)) : CodSt w w' Ao g gs n C m c s A1 c1 k v Ap np cp P t' xs :=
  ⟨h.own.kept hg (by
      rcases h.ho with e | e
      · right; rw [e]; have := h.gw; simp [Value.ownBlock]; omega
      · left; rw [e]; rfl), h.ho, fun _ => hs,
   h.parts.grown hg (fun a ha => by have := (h.away a ha).2; intro e; injection e with e; omega),
   h.box.grown hg (by have := h.gw; intro e; injection e with e; omega),
   Below.grown h.ext hg h.ext.size (fun q e => by injection e with e; have := h.gw; omega), h.away, h.gw⟩
end
theorem codF_zero {m c s : Int} {n1 n2 n : Nat} {l : List (Int × Int)} (h : codF m c s n1 n2 n l = 0) : schF m c s = 0 ∧ modeF n1 n2 n = 0 ∧ listF l (n : Int) = 0 := by
  unfold codF at h
  split at h
  · rename_i h2; exact absurd h h2
  · rename_i h2
    split at h
    · rename_i h3; exact absurd h h3
    · rename_i h3
      exact ⟨Classical.not_not.1 h2, Classical.not_not.1 h3, h⟩

set_option maxRecDepth 100000 in
set_option maxHeartbeats 2000000 in
theorem keyCoded_bad (back : Bool) {A1 A2 A3 A4 : Option Addr} {c1 c2 c3 c4 n1 n2 n n4 : Nat} {l : List (Int × Int)} {m c s : Int} {w : World} (h4 : At w 2 e2 A4 n4 c4 l) (hF : codF m c s n1 n2 n l ≠ 0) :
    Calls Try.prog 114 #[schV m c s, .slice A1 n1 c1, .slice A2 n2 c2, .slice A3 n c3, .slice A4 n4 c4, .func (Fn.func (oneF back)) #[] #[]] w fun e w' => e = .returned (.tuple #[.slice none 0 0, .int .i64 (codF m c s n1 n2 n l)]) ∧ Ext w w' := by
  have HC := hide (fun W => keyScheme_any m c s W)
  have HM := hide (fun W => modeFault_bad A1 A2 A3 n1 n2 c1 c2 n c3 W)
  have HL := hide (fun W (hx : Ext w W) => keyList_any (h4.ext hx) (n : Int))
  have hdef : codF m c s n1 n2 n l = if schF m c s ≠ 0 then schF m c s else if modeF n1 n2 n ≠ 0 then modeF n1 n2 n else listF l (n : Int) := rfl
  generalize codF m c s n1 n2 n l = R at *
  generalize schF m c s = r1 at *
  generalize modeF n1 n2 n = r2 at *
  generalize listF l (n : Int) = r3 at *
  by_cases hr : (if r1 ≠ 0 then r1 else r2) = 0
  · have hR : R = r3 := by
      rw [hdef]
      by_cases h1 : r1 = 0
      · rw [if_neg (by simpa using h1)] at hr ⊢
        rw [if_neg (by simpa using hr)]
      · rw [if_pos h1] at hr; exact absurd hr h1
    have HR := hide hR
    have hb : (r3 != 0) = true := by rw [bne_iff_ne, ← hR]; exact hF
    have HZ := hide hr
    clear hdef hF hR hr h4
    go_enter Try.func114, Try.ntmps114
    go_wp2_with (first | ((go_at_call 46; refine (HC.out _).mono ?_); rintro e w1 ⟨rfl, e1⟩; have E1 := hide (Ext.trans (Ext.alloc w (.cells #[.int .i64 m, .int .i64 c, .int .i64 s] 57)) e1); clear e1) | ((go_at_call 89; refine (HM.out _).mono ?_); rintro e w' ⟨rfl, rfl⟩))
    refine (first2_any (x := r1) (y := r2) ((Blk.new w1 _ _).cell 0) ((Blk.new w1 _ _).cell 1)).mono ?_
    rintro e w' ⟨rfl, rfl⟩
    rw [HZ.out]
    go_wp2_with fail
    refine (HL.out _ (Ext.trans E1.out (Ext.alloc _ _))).mono ?_
    rintro e w3 ⟨rfl, e3⟩
    have E3 := hide (Ext.trans (Ext.trans E1.out (Ext.alloc _ _)) e3)
    clear e3
    go_wp2
    go_ret2
    exact ⟨by rw [HR.out]; rfl, E3.out⟩
  · have hR : R = if r1 ≠ 0 then r1 else r2 := by
      rw [hdef]
      by_cases h1 : r1 = 0
      · rw [if_neg (by simpa using h1)] at hr ⊢
        rw [if_pos hr, if_neg (by simpa using h1)]
      · rw [if_pos h1, if_pos h1]
    have HR := hide hR
    have hb : ((if r1 ≠ 0 then r1 else r2) != 0) = true := by rw [bne_iff_ne]; exact hr
    have HFI := hide (fun (b off : Nat) (W : World) (h0 : W.cell? ⟨b, off, none⟩ = some (.int .i64 r1)) (h1 : W.cell? ⟨b, off + 1, none⟩ = some (.int .i64 r2)) => first2_any h0 h1)
    generalize (if r1 ≠ 0 then r1 else r2) = r4 at *
    clear hdef hF hR hr h4
    go_enter Try.func114, Try.ntmps114
    go_wp2_with (first | ((go_at_call 46; refine (HC.out _).mono ?_); rintro e w1 ⟨rfl, e1⟩; have E1 := hide (Ext.trans (Ext.alloc w (.cells #[.int .i64 m, .int .i64 c, .int .i64 s] 57)) e1); clear e1) | ((go_at_call 89; refine (HM.out _).mono ?_); rintro e w' ⟨rfl, rfl⟩))
    refine (HFI.out _ _ _ ((Blk.new w1 _ _).cell 0) ((Blk.new w1 _ _).cell 1)).mono ?_
    rintro e w' ⟨rfl, rfl⟩
    go_wp2
    go_ret2
    exact ⟨by rw [HR.out]; rfl, Ext.trans E1.out (Ext.alloc _ _)⟩
end Go.Proofs.Ytifmgngmkajahaa
