/-
  The row of the table of types: a piece.
-/
import Derived.Test.YtjhbpilgejbmjaaKit
namespace Go.Proofs.Ytjhbpilgejbmjaa
theorem infoPc : (Try.prog.info? 42).map (fun i => (i.zero, i.size, i.bytes)) = some (some (.agg #[.int .i64 0, .int .i64 0]), 2, 16) := by kernel_rfl
end Go.Proofs.Ytjhbpilgejbmjaa
