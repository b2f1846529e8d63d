/-
  Contract: the laws' sameCore at equal lists.
-/
import Derived.Test.YtefadlbfkhndfaaGreatDoorGA
import Derived.BigQuiet
namespace Go.Proofs.YtefadlbfkhndfaaGreatDoor
open Go.RowKit
set_option linter.unusedSimpArgs false
set_option linter.unusedVariables false

set_option maxHeartbeats 1000000 in
theorem sameCore_yes {A A' : Option Addr} {n c n' c' : Nat} {l : List (Int × Int)} {w : World} (h : Arr PP 2 w w.heap.size A n l) (h' : Arr PP 2 w w.heap.size A' n' l) (hn : n ≤ 1048576) :
    Calls Tryz.prog 35 #[.slice A n c, .slice A' n' c'] w fun e w' => e = .returned (.bool true) ∧ Below w.heap.size w w' := by
  obtain rfl : n = n' := h.1.symm.trans h'.1
  have f0 : ((n : Int) != (n : Int)) = false := by simp
  go_enter Tryz.func35, Tryz.ntmps35
  go_wp2
  clear f0
  go_loopw [5] (fun i wr => ∃ j : Nat, j ≤ n ∧ i = .int .i64 j ∧ Below w.heap.size w wr) (fun i _ => n - (intOf i).toNat)
  case atStart => exact ⟨0, Nat.zero_le _, rfl, Below.refl _ _⟩
  case round =>
    obtain ⟨j, hj, rfl, hb⟩ := hrel
    by_cases hlt : j < n
    · obtain ⟨b, off, x, y, rfl, hbB, hx, c1, c2⟩ := h.pair hlt
      obtain ⟨b', off', x', y', rfl, hbB', hx', c1', c2'⟩ := h'.pair hlt
      rw [hx] at hx'
      injection hx' with hx'
      injection hx' with hxx hyy
      subst hxx; subst hyy
      have d1 := (hb.cell (by exact hbB)).trans c1
      have d2 := (hb.cell (by exact hbB)).trans c2
      have d1' := (hb.cell (by exact hbB')).trans c1'
      have d2' := (hb.cell (by exact hbB')).trans c2'
      have ik : (j : Int) < (n : Int) := by omega
      have ik0 : (0 : Int) ≤ (j : Int) := by omega
      clear c1 c2 c1' c2' hx
      go_wp2_with fail
      go_quiet (fail)
      have hb3 := below_drewN hb nq
      generalize wr.drewN nq = w3 at hb3 ⊢
      clear d1 d2 d1' d2' hb
      go_wp2
      go_roundw
      case rel => exact ⟨j + 1, by omega, by go_num, hb3⟩
      case measure => simp [intOf]; omega
    · obtain rfl : j = n := by omega
      go_wp2
      go_ret
      exact ⟨rfl, hb⟩
end Go.Proofs.YtefadlbfkhndfaaGreatDoor
