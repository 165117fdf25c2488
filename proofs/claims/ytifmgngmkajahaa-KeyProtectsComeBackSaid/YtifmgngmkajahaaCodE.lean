/- Walks of Protect and Open (both). Conditions: none. -/
import Derived.Test.YtifmgngmkajahaaCodD
namespace Go.Proofs.Ytifmgngmkajahaa
open Go.RowKit Kc

/-- What Protect (back: Open) makes of bytes. -/
def codV (m c s : Int) (back : Bool) (k v b : List UInt8) (n1 n2 n : Nat) (l : List (Int × Int)) : List UInt8 :=
  if codF m c s n1 n2 n l ≠ 0 then [] else (codK m c.toNat s.toNat back k v b (partsP l (n : Int))).1
theorem codV_none {m c s : Int} {back : Bool} {k v b : List UInt8} {n1 n2 n : Nat} {l : List (Int × Int)} (h : codF m c s n1 n2 n l ≠ 0) : codV m c s back k v b n1 n2 n l = [] := by unfold codV; rw [if_pos h]

theorem keyCoded_any (back : Bool) {A1 A2 A3 A4 : Option Addr} {c1 c2 c3 c4 n1 n2 n n4 : Nat} {k v b : List UInt8} {l : List (Int × Int)} {m c s : Int} {w : World} (h1 : At w 1 e8 A1 n1 c1 k) (h2 : At w 1 e8 A2 n2 c2 v) (h3 : At w 1 e8 A3 n c3 b) (h4 : At w 2 e2 A4 n4 c4 l) :
    Calls Try.prog 114 #[schV m c s, .slice A1 n1 c1, .slice A2 n2 c2, .slice A3 n c3, .slice A4 n4 c4, .func (Fn.func (oneF back)) #[] #[]] w (Gives 1 e8 w (codV m c s back k v b n1 n2 n l) (codF m c s n1 n2 n l)) := by
  by_cases hF : codF m c s n1 n2 n l = 0
  · obtain ⟨hs0, hmo, hl0⟩ := codF_zero hF
    obtain ⟨rfl, rfl, hn⟩ := modeF_zero hmo
    obtain ⟨_, _, hc, hs, _⟩ := schF_zero hs0
    obtain ⟨cn, rfl⟩ : ∃ q : Nat, c = (q : Int) := ⟨c.toNat, by omega⟩
    obtain ⟨sn, rfl⟩ : ∃ q : Nat, s = (q : Int) := ⟨s.toNat, by omega⟩
    refine (keyCoded_ok back h1 h2 h3 h4 hF).mono fun e w' hh => ?_
    obtain ⟨A, c', he, ha, hx⟩ := hh
    refine ⟨A, n, c', by rw [hF]; exact he, ?_, hx⟩
    unfold codV
    rw [if_neg (by omega), Int.toNat_natCast, Int.toNat_natCast]
    exact ha
  · rw [codV_none hF]
    refine (keyCoded_bad back h4 hF).mono fun e w' hh => ?_
    obtain ⟨rfl, hx⟩ := hh
    exact gives_nil _ hx
theorem refCoded_any (back : Bool) {A1 A2 A3 A4 : Option Addr} {c1 c2 c3 c4 n1 n2 n n4 : Nat} {k v b : List UInt8} {l : List (Int × Int)} {m c s : Int} {w : World} (h1 : At w 1 e8 A1 n1 c1 k) (h2 : At w 1 e8 A2 n2 c2 v) (h3 : At w 1 e8 A3 n c3 b) (h4 : At w 2 e2 A4 n4 c4 l) :
    Calls Try.prog 119 #[schV m c s, .slice A1 n1 c1, .slice A2 n2 c2, .slice A3 n c3, .slice A4 n4 c4, .bool back] w (Gives 1 e8 w (codV m c s back k v b n1 n2 n l) (codF m c s n1 n2 n l)) := by
  by_cases hF : codF m c s n1 n2 n l = 0
  · obtain ⟨hs0, hmo, hl0⟩ := codF_zero hF
    obtain ⟨rfl, rfl, hn⟩ := modeF_zero hmo
    obtain ⟨_, _, hc, hs, _⟩ := schF_zero hs0
    obtain ⟨cn, rfl⟩ : ∃ q : Nat, c = (q : Int) := ⟨c.toNat, by omega⟩
    obtain ⟨sn, rfl⟩ : ∃ q : Nat, s = (q : Int) := ⟨s.toNat, by omega⟩
    refine (refCoded_ok back h1 h2 h3 h4 hF).mono fun e w' hh => ?_
    obtain ⟨A, c', he, ha, hx⟩ := hh
    refine ⟨A, n, c', by rw [hF]; exact he, ?_, hx⟩
    unfold codV
    rw [if_neg (by omega), Int.toNat_natCast, Int.toNat_natCast]
    have e1 : (codK m cn sn back k v b (partsR l (n : Int))) = codK m cn sn back k v b (partsP l (n : Int)) := by
      rw [parts_filter hl0]
      exact codK_filter m cn sn back k v b _ _
    rw [← e1]
    exact ha
  · rw [codV_none hF]
    refine (refCoded_bad back h4 hF).mono fun e w' hh => ?_
    obtain ⟨rfl, hx⟩ := hh
    exact gives_nil _ hx
set_option maxHeartbeats 1000000 in
theorem keyProtect_any {A1 A2 A3 A4 : Option Addr} {c1 c2 c3 c4 n1 n2 n n4 : Nat} {k v b : List UInt8} {l : List (Int × Int)} {m c s : Int} {w : World} (h1 : At w 1 e8 A1 n1 c1 k) (h2 : At w 1 e8 A2 n2 c2 v) (h3 : At w 1 e8 A3 n c3 b) (h4 : At w 2 e2 A4 n4 c4 l) :
    Calls Try.prog 61 #[schV m c s, .slice A1 n1 c1, .slice A2 n2 c2, .slice A3 n c3, .slice A4 n4 c4] w (Gives 1 e8 w (codV m c s false k v b n1 n2 n l) (codF m c s n1 n2 n l)) := by
  have HC := hide (fun (W : World) (hx : Ext w W) => keyCoded_any false (m := m) (c := c) (s := s) (h1.ext hx) (h2.ext hx) (h3.ext hx) (h4.ext hx))
  clear h1 h2 h3 h4
  generalize codV m c s false k v b n1 n2 n l = V at *
  generalize codF m c s n1 n2 n l = F at *
  go_enter Try.func61, Try.ntmps61
  go_wp2_with fail
  refine (HC.out _ (Ext.alloc w (.cells #[.int .i64 m, .int .i64 c, .int .i64 s] 57))).mono ?_
  rintro e w1 ⟨A, q, c', rfl, ha, hx⟩
  have HA := hide ha; have HX := hide hx
  clear ha hx
  go_wp2
  go_ret2
  exact gives_at rfl rfl HA.out (Ext.trans (Ext.alloc _ _) HX.out)
set_option maxHeartbeats 1000000 in
theorem keyOpen_any {A1 A2 A3 A4 : Option Addr} {c1 c2 c3 c4 n1 n2 n n4 : Nat} {k v b : List UInt8} {l : List (Int × Int)} {m c s : Int} {w : World} (h1 : At w 1 e8 A1 n1 c1 k) (h2 : At w 1 e8 A2 n2 c2 v) (h3 : At w 1 e8 A3 n c3 b) (h4 : At w 2 e2 A4 n4 c4 l) :
    Calls Try.prog 68 #[schV m c s, .slice A1 n1 c1, .slice A2 n2 c2, .slice A3 n c3, .slice A4 n4 c4] w (Gives 1 e8 w (codV m c s true k v b n1 n2 n l) (codF m c s n1 n2 n l)) := by
  have HC := hide (fun (W : World) (hx : Ext w W) => keyCoded_any true (m := m) (c := c) (s := s) (h1.ext hx) (h2.ext hx) (h3.ext hx) (h4.ext hx))
  clear h1 h2 h3 h4
  generalize codV m c s true k v b n1 n2 n l = V at *
  generalize codF m c s n1 n2 n l = F at *
  go_enter Try.func68, Try.ntmps68
  go_wp2_with fail
  refine (HC.out _ (Ext.alloc w (.cells #[.int .i64 m, .int .i64 c, .int .i64 s] 57))).mono ?_
  rintro e w1 ⟨A, q, c', rfl, ha, hx⟩
  have HA := hide ha; have HX := hide hx
  clear ha hx
  go_wp2
  go_ret2
  exact gives_at rfl rfl HA.out (Ext.trans (Ext.alloc _ _) HX.out)
set_option maxHeartbeats 1000000 in
theorem refProtect_any {A1 A2 A3 A4 : Option Addr} {c1 c2 c3 c4 n1 n2 n n4 : Nat} {k v b : List UInt8} {l : List (Int × Int)} {m c s : Int} {w : World} (h1 : At w 1 e8 A1 n1 c1 k) (h2 : At w 1 e8 A2 n2 c2 v) (h3 : At w 1 e8 A3 n c3 b) (h4 : At w 2 e2 A4 n4 c4 l) :
    Calls Try.prog 67 #[schV m c s, .slice A1 n1 c1, .slice A2 n2 c2, .slice A3 n c3, .slice A4 n4 c4] w (Gives 1 e8 w (codV m c s false k v b n1 n2 n l) (codF m c s n1 n2 n l)) := by
  have HC := hide (fun (W : World) (hx : Ext w W) => refCoded_any false (m := m) (c := c) (s := s) (h1.ext hx) (h2.ext hx) (h3.ext hx) (h4.ext hx))
  clear h1 h2 h3 h4
  generalize codV m c s false k v b n1 n2 n l = V at *
  generalize codF m c s n1 n2 n l = F at *
  go_enter Try.func67, Try.ntmps67
  go_wp2_with fail
  refine (HC.out _ (Ext.alloc w (.cells #[.int .i64 m, .int .i64 c, .int .i64 s] 57))).mono ?_
  rintro e w1 ⟨A, q, c', rfl, ha, hx⟩
  have HA := hide ha; have HX := hide hx
  clear ha hx
  go_wp2
  go_ret2
  exact gives_at rfl rfl HA.out (Ext.trans (Ext.alloc _ _) HX.out)
set_option maxHeartbeats 1000000 in
theorem refOpen_any {A1 A2 A3 A4 : Option Addr} {c1 c2 c3 c4 n1 n2 n n4 : Nat} {k v b : List UInt8} {l : List (Int × Int)} {m c s : Int} {w : World} (h1 : At w 1 e8 A1 n1 c1 k) (h2 : At w 1 e8 A2 n2 c2 v) (h3 : At w 1 e8 A3 n c3 b) (h4 : At w 2 e2 A4 n4 c4 l) :
    Calls Try.prog 69 #[schV m c s, .slice A1 n1 c1, .slice A2 n2 c2, .slice A3 n c3, .slice A4 n4 c4] w (Gives 1 e8 w (codV m c s true k v b n1 n2 n l) (codF m c s n1 n2 n l)) := by
  have HC := hide (fun (W : World) (hx : Ext w W) => refCoded_any true (m := m) (c := c) (s := s) (h1.ext hx) (h2.ext hx) (h3.ext hx) (h4.ext hx))
  clear h1 h2 h3 h4
  generalize codV m c s true k v b n1 n2 n l = V at *
  generalize codF m c s n1 n2 n l = F at *
  go_enter Try.func69, Try.ntmps69
  go_wp2_with fail
  refine (HC.out _ (Ext.alloc w (.cells #[.int .i64 m, .int .i64 c, .int .i64 s] 57))).mono ?_
  rintro e w1 ⟨A, q, c', rfl, ha, hx⟩
  have HA := hide ha; have HX := hide hx
  clear ha hx
  go_wp2
  go_ret2
  exact gives_at rfl rfl HA.out (Ext.trans (Ext.alloc _ _) HX.out)
end Go.Proofs.Ytifmgngmkajahaa
