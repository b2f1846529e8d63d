/-
  The reference's draw of a core.
-/
import Derived.Test.YtefadlbfkhndfaaDoorDrawCoreV
namespace Go.Proofs.YtefadlbfkhndfaaDoor
open Go.RowKit
set_option linter.unusedSimpArgs false
set_option linter.unusedVariables false

set_option maxHeartbeats 1000000 in
theorem DrawCoreLength_any (A : Option Addr) (n c : Nat) (l : List Int) (w : World) (h : Arr BB 1 w w.heap.size A n l) (hby : ∀ x ∈ l, 0 ≤ x ∧ x ≤ 255) (hc : n ≤ c) :
    Calls Tryd.prog 12 #[.slice A n c] w (DrawnTop PP 2 59 w 10) := by
  have C := Lib.hid (l6Open_any A n c l w h hby hc)
  clear hby h
  go_enter Tryd.func12, Tryd.ntmps12
  go_wp2_with fail
  refine C.out.mono ?_
  rintro e w1 ⟨rfl, hr, hb, hs⟩
  go_wp2_with fail
  refine (l91Core_any _ 0 w1 hr (by omega)).mono ?_
  rintro e w2 ⟨A2, n2, c2, l2, p2, rfl, ho, hn, hr2, hp2, hg⟩
  have hb2 := hb.grown hg (by omega) (by intro k hk; simp at hk; omega)
  clear hg hr hb
  go_wp2
  go_ret
  exact ⟨A2, n2, c2, l2, rfl, ho.less (by omega), hn, hb2⟩
end Go.Proofs.YtefadlbfkhndfaaDoor
