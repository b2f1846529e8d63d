/-
  The exact laws' own words on a slice of Piece: its size, its copy, its comparison.
-/
import Derived.Test.YtefadlbfkhndfaaDoorKit
import Derived.StillTailTactics
namespace Go.Proofs.YtefadlbfkhndfaaDoor
open Go.RowKit
set_option linter.unusedSimpArgs false
set_option linter.unusedVariables false

theorem infoPiece : (Tryd.prog.info? 59).map (fun i => (i.zero, i.size, i.bytes)) = some (some (.agg #[.int .i64 0, .int .i64 0]), 2, 16) := by kernel_rfl

end Go.Proofs.YtefadlbfkhndfaaDoor
