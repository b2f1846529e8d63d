/-
  Comparisons of rows that read alike.
-/
import Derived.Test.YtjhbpilgejbmjaaPairPiece
import Derived.Test.YtjhbpilgejbmjaaPairOrder
import Derived.Test.YtjhbpilgejbmjaaEqIntS
namespace Go.Proofs.Ytjhbpilgejbmjaa
open Go.RowKit
set_option linter.unusedSimpArgs false
set_option linter.unusedVariables false

theorem eqPieceS_yes {A A' : Option Addr} {n c n' c' : Nat} {l : List (Int × Int)} {w : World} (h : Arr PP 2 w w.heap.size A n l) (h' : Arr PP 2 w w.heap.size A' n' l) (hn : n ≤ 1048576) :
    Calls Try.prog 29 #[.slice A n c, .slice A' n' c'] w fun e w' => e = .returned (.bool true) ∧ Below w.heap.size w w' := by
  have C := eqPieceS_any A n c l A' n' c' l w h h' hn (by have := h.1; have := h'.1; omega)
  rw [decide_eq_true rfl] at C
  exact C
theorem eqOrderS_yes {A A' : Option Addr} {n c n' c' : Nat} {l : List (Int × Int)} {w : World} (h : Arr PP 2 w w.heap.size A n l) (h' : Arr PP 2 w w.heap.size A' n' l) (hn : n ≤ 1048576) :
    Calls Try.prog 30 #[.slice A n c, .slice A' n' c'] w fun e w' => e = .returned (.bool true) ∧ Below w.heap.size w w' := by
  have C := eqOrderS_any A n c l A' n' c' l w h h' hn (by have := h.1; have := h'.1; omega)
  rw [decide_eq_true rfl] at C
  exact C
theorem eqIntS_yes {A A' : Option Addr} {n c n' c' : Nat} {l : List Int} {w : World} (h : Arr II 1 w w.heap.size A n l) (h' : Arr II 1 w w.heap.size A' n' l) (hn : n ≤ 1099511627776) :
    Calls Try.prog 31 #[.slice A n c, .slice A' n' c'] w fun e w' => e = .returned (.bool true) ∧ Below w.heap.size w w' := by
  have C := eqIntS_any A n c l A' n' c' l w h h' hn (by have := h.1; have := h'.1; omega)
  rw [decide_eq_true rfl] at C
  exact C
end Go.Proofs.Ytjhbpilgejbmjaa
