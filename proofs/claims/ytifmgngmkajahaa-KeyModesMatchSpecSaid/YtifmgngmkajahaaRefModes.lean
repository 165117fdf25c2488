/- Walks of the document's Chain and Unchain. Conditions: none. -/
import Derived.Test.YtifmgngmkajahaaRefUnch
import Derived.Test.YtifmgngmkajahaaRefAsk
namespace Go.Proofs.Ytifmgngmkajahaa
open Go.RowKit Kc

theorem refChain_ok {A1 A2 A3 : Option Addr} {c1 c2 n c3 : Nat} {l m b : List UInt8} {w : World} (h1 : At w 1 e8 A1 16 c1 l) (h2 : At w 1 e8 A2 8 c2 m) (h3 : At w 1 e8 A3 n c3 b) (hn : n ≤ 100000) :
    Calls Try.prog 42 #[.slice A1 16 c1, .slice A2 8 c2, .slice A3 n c3] w fun e w' => ∃ A c, e = .returned (.tuple #[.slice A n c, .int .i64 0]) ∧ At w' 1 e8 A n c (chainL l (n / 8) m b) ∧ Ext w w' := by
  have hb : modeF 16 8 n = 0 := by unfold modeF; rw [if_neg (by simp), if_neg (by omega)]
  have HC := hide (fun W : World => ask_any A1 A2 A3 16 8 c1 c2 n c3 W)
  rw [hb] at HC
  have HD := hide (chained_any (cr := 0) (ev := 0) h1 h2 h3 hn (by omega))
  rw [chG_all] at HD
  clear h1 h2 h3 hb
  go_enter Try.func42, Try.ntmps42
  go_wp2_with fail
  refine (HC.out _).mono ?_
  rintro e w' ⟨rfl, rfl⟩
  go_wp2_with fail
  refine HD.out.mono ?_
  rintro e w' ⟨A, c, rfl, a1, x1⟩
  have P := hide a1; have X := hide x1
  clear a1 x1
  go_wp2
  go_ret2
  exact ⟨A, c, rfl, P.out, X.out⟩
theorem refChain_bad {A1 A2 A3 : Option Addr} {n1 n2 c1 c2 n c3 : Nat} {w : World} (h : modeF n1 n2 n ≠ 0) :
    Calls Try.prog 42 #[.slice A1 n1 c1, .slice A2 n2 c2, .slice A3 n c3] w fun e w' => e = .returned (.tuple #[.slice none 0 0, .int .i64 (modeF n1 n2 n)]) ∧ w = w' := by
  have hb : (modeF n1 n2 n != 0) = true := by rw [bne_iff_ne]; exact h
  have HC := hide (fun W : World => ask_any A1 A2 A3 n1 n2 c1 c2 n c3 W)
  generalize modeF n1 n2 n = r at *
  clear h
  go_enter Try.func42, Try.ntmps42
  go_wp2_with fail
  refine (HC.out _).mono ?_
  rintro e w' ⟨rfl, rfl⟩
  go_wp2
  go_ret2
  exact ⟨rfl, rfl⟩
theorem refUnchain_ok {A1 A2 A3 : Option Addr} {c1 c2 n c3 : Nat} {l m b : List UInt8} {w : World} (h1 : At w 1 e8 A1 16 c1 l) (h2 : At w 1 e8 A2 8 c2 m) (h3 : At w 1 e8 A3 n c3 b) (hn : n ≤ 100000) :
    Calls Try.prog 43 #[.slice A1 16 c1, .slice A2 8 c2, .slice A3 n c3] w fun e w' => ∃ A c, e = .returned (.tuple #[.slice A n c, .int .i64 0]) ∧ At w' 1 e8 A n c (unchL l (n / 8) m b) ∧ Ext w w' := by
  have hb : modeF 16 8 n = 0 := by unfold modeF; rw [if_neg (by simp), if_neg (by omega)]
  have HC := hide (fun W : World => ask_any A1 A2 A3 16 8 c1 c2 n c3 W)
  rw [hb] at HC
  have HD := hide (unchained_any (cr := 0) (ev := 0) h1 h2 h3 hn (by omega))
  rw [unG_all] at HD
  clear h1 h2 h3 hb
  go_enter Try.func43, Try.ntmps43
  go_wp2_with fail
  refine (HC.out _).mono ?_
  rintro e w' ⟨rfl, rfl⟩
  go_wp2_with fail
  refine HD.out.mono ?_
  rintro e w' ⟨A, c, rfl, a1, x1⟩
  have P := hide a1; have X := hide x1
  clear a1 x1
  go_wp2
  go_ret2
  exact ⟨A, c, rfl, P.out, X.out⟩
theorem refUnchain_bad {A1 A2 A3 : Option Addr} {n1 n2 c1 c2 n c3 : Nat} {w : World} (h : modeF n1 n2 n ≠ 0) :
    Calls Try.prog 43 #[.slice A1 n1 c1, .slice A2 n2 c2, .slice A3 n c3] w fun e w' => e = .returned (.tuple #[.slice none 0 0, .int .i64 (modeF n1 n2 n)]) ∧ w = w' := by
  have hb : (modeF n1 n2 n != 0) = true := by rw [bne_iff_ne]; exact h
  have HC := hide (fun W : World => ask_any A1 A2 A3 n1 n2 c1 c2 n c3 W)
  generalize modeF n1 n2 n = r at *
  clear h
  go_enter Try.func43, Try.ntmps43
  go_wp2_with fail
  refine (HC.out _).mono ?_
  rintro e w' ⟨rfl, rfl⟩
  go_wp2
  go_ret2
  exact ⟨rfl, rfl⟩
end Go.Proofs.Ytifmgngmkajahaa
