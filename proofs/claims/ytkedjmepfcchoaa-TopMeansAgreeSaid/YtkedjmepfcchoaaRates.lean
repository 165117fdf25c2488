/- Walks: MeanRates (both). Conditions as stated. -/
import Derived.Test.YtkedjmepfcchoaaMeans
namespace Go.Proofs.Ytkedjmepfcchoaa
open Go.RowKit
/-- MeanRates. -/
def mratesL (L : List Int) (S : List (List Int)) (Q : List Int) : List Int := if filmF L S Q = 0 then ratesL L S else []
section
variable {lA : Option Addr} {ln lc : Nat} {sA : Option Addr} {sn sc : Nat} {qA : Option Addr} {qn qc : Nat} {L : List Int} {S : List (List Int)} {Q : List Int} {w : World}
set_option maxRecDepth 100000 in
set_option maxHeartbeats 2000000 in
theorem keyRates_any (h : Shw w lA ln lc sA sn sc qA qn qc L S Q) :
    Calls Try.prog 18 #[shV lA ln lc sA sn sc qA qn qc] w (Gives 1 e64 w (mratesL L S Q) (filmF L S Q)) := by
  have EA := hide (Ext.alloc w (shO lA ln lc sA sn sc qA qn qc))
  have HCL := hide (fun (W : World) hW => sh_cells w lA ln lc sA sn sc qA qn qc (W := W) hW)
  have HC := hide (keyFilm_any (h.ext EA.out))
  have HH := hide h
  clear h
  unfold mratesL
  by_cases hz : filmF L S Q = 0
  · rw [if_pos hz, hz]
    have HM := hide (fun (W : World) (hW : Ext w W) => keyMean_any (HH.out.ext hW) (filmF_ok hz))
    rw [hz] at HC
    clear hz
    go_enter Try.func18, Try.ntmps18
    go_wp2_with fail
    refine HC.out.mono ?_
    rintro e w1 ⟨rfl, e1⟩
    obtain ⟨c0, c1, c2⟩ := HCL.out w1 e1
    have E1 := hide (Ext.trans EA.out e1)
    clear e1
    go_wp2_with fail
    refine (HM.out _ E1.out).mono ?_
    rintro e w2 ⟨A, n, c, rfl, a2, e2⟩
    have P2 := hide a2
    have E2 := hide (Ext.trans E1.out e2)
    clear e2 a2
    go_wp2_with fail
    go_ret2
    exact ⟨_, _, _, rfl, P2.out, E2.out⟩
  · rw [if_neg hz]
    have hb : (filmF L S Q != 0) = true := by rw [bne_iff_ne]; exact hz
    generalize filmF L S Q = r at *
    clear hz
    go_enter Try.func18, Try.ntmps18
    go_wp2_with fail
    refine HC.out.mono ?_
    rintro e w1 ⟨rfl, e1⟩
    have E1 := hide (Ext.trans EA.out e1)
    clear e1
    go_wp2_with fail
    go_ret2
    exact gives_nil _ E1.out
set_option maxRecDepth 100000 in
set_option maxHeartbeats 2000000 in
theorem refRates_any (h : Shw w lA ln lc sA sn sc qA qn qc L S Q) :
    Calls Try.prog 19 #[shV lA ln lc sA sn sc qA qn qc] w (Gives 1 e64 w (mratesL L S Q) (filmF L S Q)) := by
  have EA := hide (Ext.alloc w (shO lA ln lc sA sn sc qA qn qc))
  have HCL := hide (fun (W : World) hW => sh_cells w lA ln lc sA sn sc qA qn qc (W := W) hW)
  have HC := hide (refFilm_any (h.ext EA.out))
  have HH := hide h
  clear h
  unfold mratesL
  by_cases hz : filmF L S Q = 0
  · rw [if_pos hz, hz]
    have HM := hide (fun (W : World) (hW : Ext w W) => refMean_any (HH.out.ext hW) (filmF_ok hz))
    rw [hz] at HC
    clear hz
    go_enter Try.func19, Try.ntmps19
    go_wp2_with fail
    refine HC.out.mono ?_
    rintro e w1 ⟨rfl, e1⟩
    obtain ⟨c0, c1, c2⟩ := HCL.out w1 e1
    have E1 := hide (Ext.trans EA.out e1)
    clear e1
    go_wp2_with fail
    refine (HM.out _ E1.out).mono ?_
    rintro e w2 ⟨A, n, c, rfl, a2, e2⟩
    have P2 := hide a2
    have E2 := hide (Ext.trans E1.out e2)
    clear e2 a2
    go_wp2_with fail
    go_ret2
    exact ⟨_, _, _, rfl, P2.out, E2.out⟩
  · rw [if_neg hz]
    have hb : (filmF L S Q != 0) = true := by rw [bne_iff_ne]; exact hz
    generalize filmF L S Q = r at *
    clear hz
    go_enter Try.func19, Try.ntmps19
    go_wp2_with fail
    refine HC.out.mono ?_
    rintro e w1 ⟨rfl, e1⟩
    have E1 := hide (Ext.trans EA.out e1)
    clear e1
    go_wp2_with fail
    go_ret2
    exact gives_nil _ E1.out
end
end Go.Proofs.Ytkedjmepfcchoaa
