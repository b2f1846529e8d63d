/-
  Contracts: isWidth, isKerf.
-/
import Derived.Test.YtjhbpilgejbmjaaKit
namespace Go.Proofs.Ytjhbpilgejbmjaa
open Go.RowKit
set_option linter.unusedSimpArgs false
set_option linter.unusedVariables false

theorem isWidth_yes (x : Int) (w : World) (h1 : 1 ≤ x) (h2 : x ≤ 1000) : Calls Try.prog 48 #[.int .i64 x] w fun e w' => e = .returned (.bool true) ∧ w = w' := by
  go_enter Try.func48, Try.ntmps48
  go_wp2
  go_ret
  exact ⟨rfl, rfl⟩
theorem isKerf_yes (x : Int) (w : World) (h1 : 0 ≤ x) (h2 : x ≤ 100) : Calls Try.prog 41 #[.int .i64 x] w fun e w' => e = .returned (.bool true) ∧ w = w' := by
  go_enter Try.func41, Try.ntmps41
  go_wp2
  go_ret
  exact ⟨rfl, rfl⟩

end Go.Proofs.Ytjhbpilgejbmjaa
