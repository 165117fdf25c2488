/- Walk: runs of the program's source. Conditions as stated. -/
import Derived.Test.YtkdmfkpkelnheaaLstA
import Derived.StillTailTactics
namespace Go.Proofs.Ytkdmfkpkelnheaa
open Go.RowKit
theorem Try.info58 : (Try.prog.info? 58).map (fun i => (i.zero, i.size, i.bytes)) = some (some (.agg #[.int .i64 0, .int .i64 0]), 2, 16) := by kernel_rfl
theorem half_lt {i k N : Nat} (hi : i = 2 * k) (h : i + 1 < N) : k + 1 ≤ N / 2 := by omega
end Go.Proofs.Ytkdmfkpkelnheaa
