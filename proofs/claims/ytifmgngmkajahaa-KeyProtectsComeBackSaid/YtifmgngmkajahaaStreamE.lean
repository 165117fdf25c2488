/- Walks of Counter (both), whatever the arguments. Conditions: none. -/
import Derived.Test.YtifmgngmkajahaaStreamD
import Derived.Test.YtifmgngmkajahaaCountersJoin
import Derived.Test.YtifmgngmkajahaaRefAsk
import Derived.Test.YtifmgngmkajahaaPairs
namespace Go.Proofs.Ytifmgngmkajahaa
open Go.RowKit Kc

def ctrV (k v b : List UInt8) (n1 n2 n : Nat) (p : Int) : List UInt8 := if ctrF n1 n2 n p ≠ 0 then [] else ctrL k v b p.toNat
theorem ctrF_zero {n1 n2 n : Nat} {p : Int} (h : ctrF n1 n2 n p = 0) : n1 = 16 ∧ n2 = 8 ∧ n ≤ 100000 ∧ 0 ≤ p ∧ p ≤ 1000000000000000 := by
  unfold ctrF at h
  split at h
  · rename_i h2; exact absurd h h2
  · rename_i h2
    have h3 : modeF n1 n2 n = 0 := Classical.not_not.1 h2
    obtain ⟨a, b, c⟩ := modeF_zero h3
    split at h
    · omega
    · exact ⟨a, b, c, by omega, by omega⟩

set_option maxRecDepth 100000 in
set_option maxHeartbeats 4000000 in
theorem refCounter_ok {A1 A2 A3 : Option Addr} {c1 c2 n c3 p : Nat} {k v b : List UInt8} {w : World} (h1 : At w 1 e8 A1 16 c1 k) (h2 : At w 1 e8 A2 8 c2 v) (h3 : At w 1 e8 A3 n c3 b) (hn : n ≤ 100000) (hp : p ≤ 1000000000000000) :
    Calls Try.prog 41 #[.slice A1 16 c1, .slice A2 8 c2, .slice A3 n c3, .int .i64 p] w fun e w' => ∃ A c, e = .returned (.tuple #[.slice A n c, .int .i64 0]) ∧ At w' 1 e8 A n c (ctrL k v b p) ∧ Ext w w' := by
  have hb : modeF 16 8 n = 0 := by unfold modeF; rw [if_neg (by simp), if_neg (by omega)]
  have HC := hide (fun W : World => ask_any A1 A2 A3 16 8 c1 c2 n c3 W)
  rw [hb] at HC
  have hbl := hide h3.len
  have H1 := hide h1; have H2 := hide h2; have H3 := hide h3
  have hp0 : (0 : Int) ≤ (p : Int) := by omega
  have hp1 : (p : Int) ≤ 1000000000000000 := by omega
  clear h1 h2 h3 hb
  go_enter Try.func41, Try.ntmps41
  go_wp2_with (first | ((go_at_call 98; with_reducible refine (HC.out _).mono ?_); rintro e w' ⟨rfl, rfl⟩) | ((go_at_call 92; with_reducible refine (within_yes ?_ _).mono ?_); (focus omega); rintro e w' ⟨rfl, rfl⟩) | ((go_at_call 92; with_reducible refine (within_no ?_ _).mono ?_); (focus omega); rintro e w' ⟨rfl, rfl⟩))
  refine (stream_any H1.out H2.out hn hp).mono ?_
  rintro e w1 ⟨A, c, rfl, a1, e1⟩
  have X1 := hide a1; have E1 := hide e1
  clear a1 e1
  go_wp2_with fail
  refine (xored_any (H3.out.ext E1.out) X1.out (Nat.le_refl _) (by omega)).mono ?_
  rintro e w2 ⟨g, rfl, o2, e2⟩
  have X2 := hide (o2.atS len_e8); have E2 := hide (Ext.trans E1.out e2)
  clear o2 e2
  go_wp2
  go_ret2
  refine ⟨_, _, rfl, ?_, E2.out⟩
  unfold ctrL
  rw [hbl.out]
  exact X2.out

set_option maxHeartbeats 400000 in
theorem refCounter_bad {A1 A2 A3 : Option Addr} {n1 n2 c1 c2 n c3 : Nat} {p : Int} {w : World} (h : ctrF n1 n2 n p ≠ 0) :
    Calls Try.prog 41 #[.slice A1 n1 c1, .slice A2 n2 c2, .slice A3 n c3, .int .i64 p] w fun e w' => e = .returned (.tuple #[.slice none 0 0, .int .i64 (ctrF n1 n2 n p)]) ∧ w = w' := by
  by_cases hm : modeF n1 n2 n = 0
  · have hm' := hm
    obtain ⟨rfl, rfl, hn⟩ := modeF_zero hm
    have hp : p < 0 ∨ 1000000000000000 < p := by
      unfold ctrF at h
      rw [if_neg (by omega)] at h
      by_cases hp : p < 0 ∨ 1000000000000000 < p
      · exact hp
      · rw [if_neg hp] at h; exact absurd rfl h
    have hf : ctrF 16 8 n p = 1 := by unfold ctrF; rw [if_neg (by omega), if_pos hp]
    rw [hf]
    have HC := hide (fun W : World => ask_any A1 A2 A3 16 8 c1 c2 n c3 W)
    rw [hm'] at HC
    clear hf h hm hm'
    go_enter Try.func41, Try.ntmps41
    go_wp2_with (first | ((go_at_call 98; with_reducible refine (HC.out _).mono ?_); rintro e w' ⟨rfl, rfl⟩) | ((go_at_call 92; with_reducible refine (within_yes ?_ _).mono ?_); (focus omega); rintro e w' ⟨rfl, rfl⟩) | ((go_at_call 92; with_reducible refine (within_no ?_ _).mono ?_); (focus omega); rintro e w' ⟨rfl, rfl⟩))
    go_ret2
    exact ⟨rfl, rfl⟩
  · have hf : ctrF n1 n2 n p = modeF n1 n2 n := by unfold ctrF; rw [if_pos hm]
    rw [hf]
    have hb : (modeF n1 n2 n != 0) = true := by rw [bne_iff_ne]; exact hm
    have HC := hide (fun W : World => ask_any A1 A2 A3 n1 n2 c1 c2 n c3 W)
    generalize modeF n1 n2 n = r at *
    clear hf h hm
    go_enter Try.func41, Try.ntmps41
    go_wp2_with fail
    refine (HC.out _).mono ?_
    rintro e w' ⟨rfl, rfl⟩
    go_wp2
    go_ret2
    exact ⟨rfl, rfl⟩
theorem keyCounter_any {A1 A2 A3 : Option Addr} {n1 n2 c1 c2 n c3 : Nat} {k v b : List UInt8} {w : World} (h1 : At w 1 e8 A1 n1 c1 k) (h2 : At w 1 e8 A2 n2 c2 v) (h3 : At w 1 e8 A3 n c3 b) (p : Int) :
    Calls Try.prog 39 #[.slice A1 n1 c1, .slice A2 n2 c2, .slice A3 n c3, .int .i64 p] w (Gives 1 e8 w (ctrV k v b n1 n2 n p) (ctrF n1 n2 n p)) := by
  by_cases h : ctrF n1 n2 n p = 0
  · obtain ⟨rfl, rfl, hn, hp0, hp1⟩ := ctrF_zero h
    obtain ⟨q, rfl⟩ : ∃ q : Nat, p = (q : Int) := ⟨p.toNat, by omega⟩
    unfold ctrV
    rw [if_neg (by omega), h, Int.toNat_natCast]
    exact (keyCounter_ok h1 h2 h3 hn (by omega)).mono fun e w' ⟨A, c, he, ha, hx⟩ => ⟨A, n, c, he, ha, hx⟩
  · unfold ctrV
    rw [if_pos h]
    refine (keyCounter_bad h).mono fun e w' hh => ?_
    obtain ⟨rfl, rfl⟩ := hh
    exact gives_nil _ (Ext.refl _)
theorem refCounter_any {A1 A2 A3 : Option Addr} {n1 n2 c1 c2 n c3 : Nat} {k v b : List UInt8} {w : World} (h1 : At w 1 e8 A1 n1 c1 k) (h2 : At w 1 e8 A2 n2 c2 v) (h3 : At w 1 e8 A3 n c3 b) (p : Int) :
    Calls Try.prog 41 #[.slice A1 n1 c1, .slice A2 n2 c2, .slice A3 n c3, .int .i64 p] w (Gives 1 e8 w (ctrV k v b n1 n2 n p) (ctrF n1 n2 n p)) := by
  by_cases h : ctrF n1 n2 n p = 0
  · obtain ⟨rfl, rfl, hn, hp0, hp1⟩ := ctrF_zero h
    obtain ⟨q, rfl⟩ : ∃ q : Nat, p = (q : Int) := ⟨p.toNat, by omega⟩
    unfold ctrV
    rw [if_neg (by omega), h, Int.toNat_natCast]
    exact (refCounter_ok h1 h2 h3 hn (by omega)).mono fun e w' ⟨A, c, he, ha, hx⟩ => ⟨A, n, c, he, ha, hx⟩
  · unfold ctrV
    rw [if_pos h]
    refine (refCounter_bad h).mono fun e w' hh => ?_
    obtain ⟨rfl, rfl⟩ := hh
    exact gives_nil _ (Ext.refl _)
end Go.Proofs.Ytifmgngmkajahaa
