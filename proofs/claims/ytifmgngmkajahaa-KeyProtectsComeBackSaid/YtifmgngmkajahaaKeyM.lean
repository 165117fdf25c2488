/- Walks: blockFault; EncryptBlock and DecryptBlock of the program and of the document. Conditions as stated. -/
import Derived.Test.YtifmgngmkajahaaKeyL
import Derived.Test.YtifmgngmkajahaaKeyI
namespace Go.Proofs.Ytifmgngmkajahaa
open Go.RowKit Kc

theorem neq_b {a b : Int} (h : a ≠ b) : (a != b) = true := by rw [bne_iff_ne]; exact h
theorem neq_f {a b : Int} (h : a = b) : (a != b) = false := by rw [bne_eq_false_iff_eq]; exact h
theorem blockFault_ok (A1 A2 : Option Addr) (c1 c2 : Nat) (w : World) :
    Calls Try.prog 84 #[.slice A1 16 c1, .slice A2 8 c2] w fun e w' => e = .returned (.int .i64 0) ∧ w = w' := by
  go_enter Try.func84, Try.ntmps84
  go_wp2
  go_ret
  exact ⟨rfl, rfl⟩
theorem blockFault_bad {A1 A2 : Option Addr} {n1 n2 c1 c2 : Nat} {w : World} (h : ¬ (n1 = 16 ∧ n2 = 8)) :
    Calls Try.prog 84 #[.slice A1 n1 c1, .slice A2 n2 c2] w fun e w' => e = .returned (.int .i64 3) ∧ w = w' := by
  by_cases h1 : n1 = 16
  · subst h1
    have h2 : ((n2 : Int) != 8) = true := neq_b (by omega)
    clear h
    go_enter Try.func84, Try.ntmps84
    go_wp2
    go_ret
    exact ⟨rfl, rfl⟩
  · have h2 : ((n1 : Int) != 16) = true := neq_b (by omega)
    clear h h1
    go_enter Try.func84, Try.ntmps84
    go_wp2
    go_ret
    exact ⟨rfl, rfl⟩

set_option maxHeartbeats 400000 in
theorem keyEncryptBlock_ok {A1 A2 : Option Addr} {c1 c2 : Nat} {l m : List UInt8} {w : World} (h1 : At w 1 e8 A1 16 c1 l) (h2 : At w 1 e8 A2 8 c2 m) :
    Calls Try.prog 24 #[.slice A1 16 c1, .slice A2 8 c2] w fun e w' => ∃ g, e = .returned (.tuple #[.slice (some ⟨g, 0, none⟩) 8 8, .int .i64 0]) ∧ At w' 1 e8 (some ⟨g, 0, none⟩) 8 8 (encB l m) ∧ Ext w w' := by
  have H1 := hide h1; have H2 := hide h2
  clear h1 h2
  go_enter Try.func24, Try.ntmps24
  go_wp2_with ((go_at_call 84; with_reducible refine (blockFault_ok _ _ _ _ _).mono ?_); rintro e w' ⟨rfl, rfl⟩)
  refine (encrypt_any H1.out H2.out (by omega) (by omega)).mono ?_
  rintro e w1 ⟨rfl, e1⟩
  have hl : (encB l m).length = 8 := length_encB l m
  generalize hx : encB l m = x at *
  have HX := hide hx; have HL := hide hl
  have E1 := hide e1
  clear hx hl e1
  go_wp2
  go_ret2
  exact ⟨_, rfl, by rw [HX.out]; exact At.new8 w1 x HL.out 98, ext_alloc E1.out _⟩
theorem keyEncryptBlock_bad {A1 A2 : Option Addr} {n1 n2 c1 c2 : Nat} {w : World} (h : ¬ (n1 = 16 ∧ n2 = 8)) :
    Calls Try.prog 24 #[.slice A1 n1 c1, .slice A2 n2 c2] w fun e w' => e = .returned (.tuple #[.slice none 0 0, .int .i64 3]) ∧ w = w' := by
  have H := hide h
  clear h
  go_enter Try.func24, Try.ntmps24
  go_wp2_with ((go_at_call 84; with_reducible refine (blockFault_bad H.out).mono ?_); rintro e w' ⟨rfl, rfl⟩)
  go_ret2
  exact ⟨rfl, rfl⟩
theorem refEncryptBlock_ok {A1 A2 : Option Addr} {c1 c2 : Nat} {l m : List UInt8} {w : World} (h1 : At w 1 e8 A1 16 c1 l) (h2 : At w 1 e8 A2 8 c2 m) :
    Calls Try.prog 25 #[.slice A1 16 c1, .slice A2 8 c2] w fun e w' => ∃ A c, e = .returned (.tuple #[.slice (some A) 8 c, .int .i64 0]) ∧ At w' 1 e8 (some A) 8 c (encB l m) ∧ Ext w w' := by
  have H1 := hide h1; have H2 := hide h2
  clear h1 h2
  go_enter Try.func25, Try.ntmps25
  go_wp2_with fail
  refine (encrypted_any H1.out H2.out (by omega) rfl).mono ?_
  rintro e w1 ⟨A, c, rfl, o1, e1⟩
  have O1 := hide o1; have E1 := hide e1
  clear o1 e1
  go_wp2
  go_ret2
  exact ⟨A, c, rfl, O1.out.atS len_e8, E1.out⟩
theorem refEncryptBlock_bad {A1 A2 : Option Addr} {n1 n2 c1 c2 : Nat} {w : World} (h : ¬ (n1 = 16 ∧ n2 = 8)) :
    Calls Try.prog 25 #[.slice A1 n1 c1, .slice A2 n2 c2] w fun e w' => e = .returned (.tuple #[.slice none 0 0, .int .i64 3]) ∧ w = w' := by
  by_cases h1 : n1 = 16
  · subst h1
    have h2 : ((n2 : Int) != 8) = true := neq_b (by omega)
    clear h
    go_enter Try.func25, Try.ntmps25
    go_wp2
    go_ret2
    exact ⟨rfl, rfl⟩
  · have h2 : ((n1 : Int) != 16) = true := neq_b (by omega)
    clear h h1
    go_enter Try.func25, Try.ntmps25
    go_wp2
    go_ret2
    exact ⟨rfl, rfl⟩

set_option maxHeartbeats 400000 in
theorem keyDecryptBlock_ok {A1 A2 : Option Addr} {c1 c2 : Nat} {l m : List UInt8} {w : World} (h1 : At w 1 e8 A1 16 c1 l) (h2 : At w 1 e8 A2 8 c2 m) :
    Calls Try.prog 26 #[.slice A1 16 c1, .slice A2 8 c2] w fun e w' => ∃ g, e = .returned (.tuple #[.slice (some ⟨g, 0, none⟩) 8 8, .int .i64 0]) ∧ At w' 1 e8 (some ⟨g, 0, none⟩) 8 8 (decB l m) ∧ Ext w w' := by
  have H1 := hide h1; have H2 := hide h2
  clear h1 h2
  go_enter Try.func26, Try.ntmps26
  go_wp2_with ((go_at_call 84; with_reducible refine (blockFault_ok _ _ _ _ _).mono ?_); rintro e w' ⟨rfl, rfl⟩)
  refine (decrypt_any H1.out H2.out (by omega) (by omega)).mono ?_
  rintro e w1 ⟨rfl, e1⟩
  have hl : (decB l m).length = 8 := length_decB l m
  generalize hx : decB l m = x at *
  have HX := hide hx; have HL := hide hl
  have E1 := hide e1
  clear hx hl e1
  go_wp2
  go_ret2
  exact ⟨_, rfl, by rw [HX.out]; exact At.new8 w1 x HL.out 98, ext_alloc E1.out _⟩
theorem keyDecryptBlock_bad {A1 A2 : Option Addr} {n1 n2 c1 c2 : Nat} {w : World} (h : ¬ (n1 = 16 ∧ n2 = 8)) :
    Calls Try.prog 26 #[.slice A1 n1 c1, .slice A2 n2 c2] w fun e w' => e = .returned (.tuple #[.slice none 0 0, .int .i64 3]) ∧ w = w' := by
  have H := hide h
  clear h
  go_enter Try.func26, Try.ntmps26
  go_wp2_with ((go_at_call 84; with_reducible refine (blockFault_bad H.out).mono ?_); rintro e w' ⟨rfl, rfl⟩)
  go_ret2
  exact ⟨rfl, rfl⟩
theorem refDecryptBlock_ok {A1 A2 : Option Addr} {c1 c2 : Nat} {l m : List UInt8} {w : World} (h1 : At w 1 e8 A1 16 c1 l) (h2 : At w 1 e8 A2 8 c2 m) :
    Calls Try.prog 27 #[.slice A1 16 c1, .slice A2 8 c2] w fun e w' => ∃ A c, e = .returned (.tuple #[.slice (some A) 8 c, .int .i64 0]) ∧ At w' 1 e8 (some A) 8 c (decB l m) ∧ Ext w w' := by
  have H1 := hide h1; have H2 := hide h2
  clear h1 h2
  go_enter Try.func27, Try.ntmps27
  go_wp2_with fail
  refine (decrypted_any H1.out H2.out (by omega) rfl).mono ?_
  rintro e w1 ⟨A, c, rfl, o1, e1⟩
  have O1 := hide o1; have E1 := hide e1
  clear o1 e1
  go_wp2
  go_ret2
  exact ⟨A, c, rfl, O1.out.atS len_e8, E1.out⟩
theorem refDecryptBlock_bad {A1 A2 : Option Addr} {n1 n2 c1 c2 : Nat} {w : World} (h : ¬ (n1 = 16 ∧ n2 = 8)) :
    Calls Try.prog 27 #[.slice A1 n1 c1, .slice A2 n2 c2] w fun e w' => e = .returned (.tuple #[.slice none 0 0, .int .i64 3]) ∧ w = w' := by
  by_cases h1 : n1 = 16
  · subst h1
    have h2 : ((n2 : Int) != 8) = true := neq_b (by omega)
    clear h
    go_enter Try.func27, Try.ntmps27
    go_wp2
    go_ret2
    exact ⟨rfl, rfl⟩
  · have h2 : ((n1 : Int) != 16) = true := neq_b (by omega)
    clear h h1
    go_enter Try.func27, Try.ntmps27
    go_wp2
    go_ret2
    exact ⟨rfl, rfl⟩
end Go.Proofs.Ytifmgngmkajahaa
