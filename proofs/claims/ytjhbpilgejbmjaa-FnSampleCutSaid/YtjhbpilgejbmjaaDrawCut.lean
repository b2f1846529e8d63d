/-
  Contract: DrawSampleCut.
-/
import Derived.Test.YtjhbpilgejbmjaaDrawCore
import Derived.Test.YtjhbpilgejbmjaaDrawOrders
namespace Go.Proofs.Ytjhbpilgejbmjaa
open Go.RowKit
set_option linter.unusedSimpArgs false
set_option linter.unusedVariables false

/-- A core, orders and a kerf, drawn. -/
def DrawnCut (T T' : TypeId) (w : World) (e : Ending) (w' : World) : Prop :=
  ∃ (A : Option Addr) (n c : Nat) (l : List (Int × Int)) (A' : Option Addr) (n' c' : Nat) (l' : List (Int × Int)) (k : Int), e = .returned (.tuple #[.slice A n c, .slice A' n' c', .int .i64 k]) ∧ Own PP 2 w' w.heap.size T (.slice A n c) n l ∧ n ≤ 10 ∧ Own PP 2 w' w.heap.size T' (.slice A' n' c') n' l' ∧ n' ≤ 10 ∧ Below w.heap.size w w'

set_option maxHeartbeats 1000000 in
theorem DrawSampleCut_any (A : Option Addr) (n c : Nat) (l : List Int) (w : World) (h : Arr BB 1 w w.heap.size A n l) (hby : ∀ x ∈ l, 0 ≤ x ∧ x ≤ 255) (hc : n ≤ c) :
    Calls Try.prog 13 #[.slice A n c] w (DrawnCut 42 32 w) := by
  have C := Lib.hid (l6Open_any A n c l w h hby hc)
  clear hby h
  go_enter Try.func13, Try.ntmps13
  go_wp2_with fail
  refine C.out.mono ?_
  rintro e w1 ⟨rfl, hr, hb, hs⟩
  go_wp2_with fail
  refine (l91Core_any _ 0 w1 hr (by omega)).mono ?_
  rintro e w2 ⟨A2, n2, c2, l2, p2, rfl, ho, hn, hr2, hp2, hg⟩
  have hb2 := hb.grown hg (by omega) (by intro k hk; simp at hk; omega)
  have hs2 := hg.size
  clear hg hr hb
  go_wp2_with fail
  refine (l93Orders_any _ p2 w2 hr2 (by omega)).mono ?_
  rintro e w3 ⟨A3, n3, c3, l3, p3, rfl, ho3, hn3, hr3, hp3, hg3⟩
  have ho2 := ho.kept hg3 (by intro k hk; simp at hk; omega)
  have hb3 := hb2.grown hg3 hb2.size (by intro k hk; simp at hk; omega)
  have hs3 := hg3.size
  clear hg3 hr2 hb2 ho
  go_wp2_with fail
  refine (l93Kerf_any _ p3 _ hr3 (by omega)).mono ?_
  rintro e w5 ⟨z, p5, rfl, hr5, hp5, hg5⟩
  have ho5 := ho2.kept hg5 (by intro k hk; simp at hk; omega)
  have ho6 := ho3.kept hg5 (by intro k hk; simp at hk; omega)
  have hb5 := hb3.grown hg5 hb3.size (by intro k hk; simp at hk; omega)
  clear ho2 ho3 hb3 hr3 hr5 hg5
  go_wp2
  go_ret3
  exact ⟨_, _, _, _, _, _, _, _, _, rfl, ho5.less (by omega), hn, ho6.less (by omega), by omega, hb5⟩
end Go.Proofs.Ytjhbpilgejbmjaa
