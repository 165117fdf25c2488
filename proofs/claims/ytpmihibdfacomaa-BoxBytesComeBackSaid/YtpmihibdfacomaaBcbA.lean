/- Walk: the law BoxBytesComeBack over whatever bytes and boxes. Conditions as stated. -/
import Derived.Test.YtpmihibdfacomaaBpkA
import Derived.Test.YtpmihibdfacomaaSamB
import Derived.Test.YtpmihibdfacomaaBoxE
import Derived.Deep.DeepCutAuto
namespace Go.Proofs.Ytpmihibdfacomaa
open Go.RowKit
theorem parse_one {A : Option Addr} {n c : Nat} {b : List UInt8} {w : World} (h : At w 1 e8 A n c b) : Calls Try.prog 4 #[.slice A n c] w fun e w' => ∃ N k c2, ∃ pl f : Int, e = .returned (.tuple #[.slice N k c2, .int .i64 pl, .int .i64 f]) ∧ Ext w w' ∧
    (f = 0 → pl = 0 ∧ ∃ ns m, parseF b = .ok ns m ∧ BxsAt w' (fun k => w.heap.size ≤ k ∧ k < w'.heap.size) N k c2 (boxesOf b ns)) ∧ (∀ ns m, parseF b = .ok ns m → f = 0) := by
  refine (keyParse_any h).mono ?_
  intro e w' ⟨h1, h2, h3⟩
  cases hr : parseF b with
  | err a f =>
    have := parseF_err hr
    exact ⟨none, 0, 0, a, f, h2 a f hr, h1, (fun h => by subst h; simp at this), (fun _ _ h => by cases h)⟩
  | ok ns m =>
    obtain ⟨N, c2, he, hx⟩ := h3 ns m hr
    exact ⟨N, _, c2, 0, 0, he, h1, (fun _ => ⟨rfl, ns, m, rfl, hx⟩), (fun _ _ _ => rfl)⟩
/-- What Pack writes. -/
def bkL (l : List BoxT) : List UInt8 := if bfF l = 0 then bytL l else []
theorem pack_one {l : List BoxT} {w : World} {G : Nat → Prop} {A : Option Addr} {n c : Nat} (h : BxsAt w G A n c l) (hb : bndL 140737488355328 l) :
    Calls Try.prog 5 #[.slice A n c] w fun e w' => ∃ N c2, e = .returned (.tuple #[.slice N (bkL l).length c2, .int .i64 (bfF l)]) ∧ Ext w w' ∧ At w' 1 e8 N (bkL l).length c2 (bkL l) := by
  refine (keyPack_any h hb).mono ?_
  intro e w' ⟨h1, h2, h3⟩
  by_cases hz : bfF l = 0
  · obtain ⟨v, he, ho⟩ := h3 hz
    obtain ⟨N, c2, rfl, hat⟩ := ho.at_ len_e8
    have hk : bkL l = bytL l := by unfold bkL; rw [if_pos hz]
    rw [hk, hz]
    exact ⟨N, c2, he, h1, hat⟩
  · have hk : bkL l = [] := by unfold bkL; rw [if_neg hz]
    rw [hk]
    exact ⟨none, 0, h2 hz, h1, At.nil _ _ _⟩
theorem bndL_of (D : Nat) (hD : 4 ≤ D) : ∀ (l : List BoxT) (dep c m : Nat), fauL l dep c = (0, m) → (bytL l).length ≤ D → bndL D l
  | [], _, _, _, _, _ => by rw [bndL]; trivial
  | .mk k f d l :: r, dep, c, m, h, hb => by
    obtain ⟨_, h2, m', h3, h4⟩ := fauL_ok h
    have hk := kind_len (elB_ok h2).1
    rw [bytL, bytT, List.length_append, List.length_append, List.length_append] at hb
    rw [bndL]
    exact ⟨by omega, by omega, bndL_of D hD l _ _ m' h3 (by omega), bndL_of D hD r _ _ m h4 (by omega)⟩
/-- Boxes that bytes read as are written as these bytes. -/
theorem parse_pack {b : List UInt8} {ns : List NodeT} {m : Nat} (h : parseF b = .ok ns m) : bndL 140737488355328 (boxesOf b ns) ∧ bfF (boxesOf b ns) = 0 ∧ bkL (boxesOf b ns) = b := by
  unfold parseF at h
  split at h
  · cases h
  have hb : b.length ≤ 1000000 := by omega
  obtain ⟨p1, p2⟩ := par_bytes (b.length + 1) 0 b.length 0 0 m ns (by omega) (by omega) (by omega) h
  rw [cutB_all] at p2
  have p3 := bytL_len _ _ _ _ p1
  rw [p2] at p3
  have h0 : bfF (boxesOf b ns) = 0 := by unfold bfF; rw [p1, if_neg (by simp), if_neg (by omega)]
  exact ⟨bndL_of _ (by omega) _ _ _ _ p1 (by rw [p2]; omega), h0, by unfold bkL; rw [if_pos h0, p2]⟩
/-- Bytes that boxes are written as read as these boxes. -/
theorem pack_parse {l : List BoxT} (h : bfF l = 0) : ∃ ns m, parseF (bkL l) = .ok ns m ∧ boxesOf (bkL l) ns = l := by
  have hk : bkL l = bytL l := by unfold bkL; rw [if_pos h]
  obtain ⟨h1, h2, h3⟩ := bfF_zero h
  obtain ⟨ns, q1, q2⟩ := byt_parse (b := bytL l) (by omega) l 0 (bytL l).length 0 0 (fauL l 0 0).2 (by rw [← h1]) (by omega) (by omega) (cutB_all _)
  rw [hk]
  exact ⟨ns, _, by unfold parseF; rw [if_neg (by omega)]; exact q1, q2⟩
set_option linter.unusedVariables false in
set_option maxRecDepth 100000 in
set_option maxHeartbeats 8000000 in
theorem byteback_any {A : Option Addr} {n c : Nat} {b : List UInt8} {l : List BoxT} {w : World} {G : Nat → Prop} {X : Option Addr} {xn xc : Nat} (hb : At w 1 e8 A n c b) (h : BxsAt w G X xn xc l) (hd : bndL 140737488355328 l) :
    Calls Try.prog 3 #[.slice A n c, .slice X xn xc] w fun e w' => e = .returned (.bool true) ∧ Ext w w' := by
  have HAW := hide (fun (W : World) => awake_any W)
  have HP := hide (parse_one hb)
  have HQ := hide (fun (W : World) (hW : Ext w W) => pack_one (h.ext hW) hd)
  have HB := hide hb
  have HX := hide h
  clear hb h hd
  go_enter Try.func3, Try.ntmps3
  go_wp2_with fail
  with_reducible refine HP.out.mono ?_
  rintro e w1 ⟨N, k, c1, pl, f, rfl, e1, q1, _⟩
  have E1 := hide e1
  have Q1 := hide q1
  clear e1 q1 HP
  go_upto_if 20 with (fail)
  go_cut [20] (fun r wx => Hid (Ext w wx))
  case first =>
    by_cases hf : f = 0
    · obtain ⟨-, ns, m, p1, p2⟩ := Q1.out hf
      obtain ⟨p3, p4, p5⟩ := parse_pack p1
      have HK := hide (pack_one p2 p3)
      rw [p4, p5] at HK
      subst hf
      clear p1 p2 p3 p4 p5 Q1
      go_wp2_with fail
      with_reducible refine HK.out.mono ?_
      rintro e w2 ⟨N2, c2, rfl, e2, a2⟩
      have E2 := hide (Ext.trans E1.out e2)
      have HBE := hide (Calls.mono (bytesEq_any (HB.out.ext E2.out) a2) (fun e w' he => (⟨by rw [he.1]; simp, he.2⟩ : e = .returned (.bool true) ∧ w2 = w')))
      clear e2 a2 HK
      go_wp2_with fail
      with_reducible refine HBE.out.mono ?_
      rintro e w' ⟨rfl, rfl⟩
      go_wp2_with fail
      go_meet
      exact E2
    · have d0 : (f == 0) = false := by rw [beq_eq_false_iff_ne]; exact hf
      go_wp2_with fail
      go_meet
      exact E1
  case rest =>
  have EC := hcut
  clear E1 Q1
  have HC := hide (HQ.out _ EC.out)
  have HPP := hide (fun (hz : bfF l = 0) => pack_parse hz)
  have HLN : Hid (bfF l ≠ 0 → (bkL l).length = 0) := hide (fun hz => by unfold bkL; rw [if_neg hz]; rfl)
  clear HQ
  generalize bkL l = bs at *
  generalize bfF l = g at *
  go_wp2_with fail
  with_reducible refine HC.out.mono ?_
  rintro e w3 ⟨N3, c3, rfl, e3, a3⟩
  have E3 := hide (Ext.trans EC.out e3)
  have A3 := hide a3
  clear e3 a3 HC EC
  by_cases hz : g = 0
  · obtain ⟨ns, m, p1, p2⟩ := HPP.out hz
    have HR := hide (parse_one A3.out)
    have P1 := hide p1
    have P2 := hide p2
    clear p1 p2 HPP HLN
    subst hz
    go_wp2_with fail
    with_reducible refine HR.out.mono ?_
    rintro e w4 ⟨N4, k4, c4, pl4, f4, rfl, e4, q4, r4⟩
    have hf4 := r4 ns m P1.out
    subst hf4
    obtain ⟨hpl, ns2, m2, q5, q6⟩ := q4 rfl
    subst hpl
    have hns := q5.symm.trans P1.out
    injection hns with hn1 hn2
    subst hn1
    rw [P2.out] at q6
    have E4 := hide (Ext.trans E3.out e4)
    have HS := hide (same_any _ (Nat.le_refl _) (HX.out.ext E4.out) q6 (fun _ _ => trivial))
    clear q4 q5 q6 r4 e4 HR
    go_wp2_with fail
    with_reducible refine HS.out.mono ?_
    rintro e w5 ⟨rfl, dm, hw5⟩
    have E5 : Hid (Ext w w5) := hide (by rw [hw5]; exact Ext.trans E4.out (Ext.drewN _ _))
    clear hw5
    go_wp2_with fail
    with_reducible refine (HAW.out _).mono ?_
    rintro e w6 ⟨rfl, e6⟩
    have E6 := hide (Ext.trans E5.out e6)
    clear e6
    go_wp2_with fail
    go_ret
    exact ⟨rfl, E6.out⟩
  · have d0 : (g == 0) = false := by rw [beq_eq_false_iff_ne]; exact hz
    have hl0 := HLN.out hz
    rw [hl0] at *
    clear HPP HLN
    go_wp2_with fail
    with_reducible refine (HAW.out _).mono ?_
    rintro e w6 ⟨rfl, e6⟩
    have E6 := hide (Ext.trans E3.out e6)
    clear e6
    go_wp2_with fail
    go_ret
    exact ⟨rfl, E6.out⟩
end Go.Proofs.Ytpmihibdfacomaa
