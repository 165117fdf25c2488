/- Walk: FragmentBytes (program). Conditions as stated. -/
import Derived.Test.YtlonhkjplijlcaaMwf13
import Derived.Deep.RegionHeld3
namespace Go.Proofs.Ytlonhkjplijlcaa
open Go.RowKit
theorem gives_own {w w' : World} {base : Nat} {v : Value} {l m : List UInt8} {f g : Int} (hf : f = g) (hl : m = l) (ho : Own w' base 5 1 e8 v m) (h : Ext w w') : Gives 1 e8 w l f (.returned (.tuple #[v, .int .i64 g])) w' := by
  obtain ⟨A, c, rfl, hat⟩ := ho.at_ len_e8
  exact gives_at hf hl hat h
theorem appN {w0 w : World} {base n : Nat} {v : Value} {l : List UInt8} (many : Nat) (k : Int) (hk : (many : Int) = k) (ho : Own w base 5 1 e8 v l) (he : Ext w0 w) (hb : w0.heap.size ≤ base) (hbw : base ≤ w.heap.size) (hm : many ≤ 8) (hn : n < 18446744073709551616) (hl : l.length ≤ 1000000000) :
    Calls Try.prog 41 #[v, .int .u64 (n : Int), .int .i64 k] w (AppGives w0 base (l ++ beN many n)) := by
  rw [← hk]; exact appendNumber_any ho he hb hbw hm hn hl
/-- What FragmentBytes gives. -/
def fbyL (num : Int) (l : List Smp) : List UInt8 := if fragF num l = 0 then fbytes num l else []
end Go.Proofs.Ytlonhkjplijlcaa
