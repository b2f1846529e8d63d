/-
  The exact laws' own words on a slice of Layer: marks that are held.
-/
import Derived.Test.YtjbdoohpljffnaaDoorMarkLayer
namespace Go.Proofs.YtjbdoohpljffnaaDoor
open Go.RowKit
set_option linter.unusedSimpArgs false
set_option linter.unusedVariables false

set_option maxHeartbeats 400000 in
theorem heldLayerS_any (A : Option Addr) (n c : Nat) (k0 : Int) (w : World) (h : Arr LL 2 w w.heap.size A n (rampLayer k0 n)) (hk0 : 0 ≤ k0 ∧ k0 ≤ 1099511627776) (hn : n ≤ 1099511627776) :
    Calls Tryd.prog 44 #[.slice A n c, .int .i64 k0] w fun e w' => e = .returned (.int .i64 (k0 + 2 * n)) ∧ Below w.heap.size w w' := by
  obtain ⟨k00, k01⟩ := hk0
  go_enter Tryd.func44, Tryd.ntmps44
  go_wp2
  go_loopw [1, 5] (fun k i wr => ∃ j : Nat, j ≤ n ∧ i = .int .i64 j ∧ k = .int .i64 (k0 + 2 * j) ∧ Below w.heap.size w wr) (fun _ i _ => n - (intOf i).toNat)
  case atStart => exact ⟨0, Nat.zero_le _, rfl, by simp, Below.refl _ _⟩
  case round =>
    obtain ⟨j, hj, rfl, rfl, hb⟩ := hrel
    by_cases hlt : j < n
    · obtain ⟨b, off, x, y, rfl, hbB, hx, c1, c2⟩ := h.layer hlt
      rw [rampLayer_get k0 hlt] at hx
      injection hx with hx
      injection hx with hx hy
      subst hx; subst hy
      have c1' := (hb.cell (by exact hbB)).trans c1
      have c2' := (hb.cell (by exact hbB)).trans c2
      have d0 : (k0 + 2 * (j : Int) != k0 + 2 * (j : Int)) = false := by simp
      have d1 : (third (k0 + 2 * (j : Int) + 1) == ((k0 + 2 * (j : Int) + 1) % 3 == 0)) = true := by unfold third; simp
      clear c1 c2
      go_wp2
      go_roundw
      case rel => exact ⟨j + 1, by omega, by go_num, by first | go_num | (congr 1; omega), hb⟩
      case measure => simp [intOf]; omega
    · obtain rfl : j = n := by omega
      go_wp2
      go_ret
      exact ⟨rfl, hb⟩
end Go.Proofs.YtjbdoohpljffnaaDoor
