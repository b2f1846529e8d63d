/-
  Contract: strconv.Itoa at numbers of up to seven digits.
-/
import Derived.Test.YtefadlbfkhndfaaDoorText
import Derived.Test.YtefadlbfkhndfaaDoorBuilder
namespace Go.Proofs.YtefadlbfkhndfaaDoor
open Go.RowKit
set_option linter.unusedSimpArgs false
set_option linter.unusedVariables false

theorem itoaB_any (u : Nat) (hu : u ≤ 10000000) (w : World) (h : Tab w) : Calls Tryd.prog 24 #[.int .i64 u] w fun e w' => e = .returned (.string (tx (Lib.decDigits u))) ∧ Below w.heap.size w w' := by
  refine (Tryd.strconv_Itoa u (by omega) (by omega) w h.here).mono ?_
  rintro e w' ⟨rfl, k, os, rfl⟩
  refine ⟨?_, Lib.below_grow _ _ (Nat.le_refl _) _ _⟩
  rw [show Lib.itoa (u : Int) = Lib.decDigits u by unfold Lib.itoa; rw [if_neg (by omega)]; simp]
  rfl
end Go.Proofs.YtefadlbfkhndfaaDoor
