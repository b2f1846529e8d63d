/-
  The walk of the law FnExactExecute.
-/
import Derived.Test.YtefadlbfkhndfaaGreatDoorSpecExec
import Derived.Test.YtefadlbfkhndfaaGreatDoorLinesAll
import Derived.Test.YtefadlbfkhndfaaGreatDoorGC
namespace Go.Proofs.YtefadlbfkhndfaaGreatDoor
open Go.RowKit
set_option linter.unusedSimpArgs false
set_option linter.unusedVariables false

set_option maxRecDepth 100000 in
set_option maxHeartbeats 2000000 in
theorem walk_FnExactExecute (w : World) (S : ByteArray) (hT : Tab w) (hE : Errs w) :
    Calls Tryz.prog 3 #[.string S] w fun e w' => e = .returned (.bool true) ∧ Below w.heap.size w w' := by
  by_cases hb : 1048576 < S.size
  · have hb' : (1048576 : Int) < (S.size : Int) := by omega
    go_enter Tryz.func3, Tryz.ntmps3
    go_wp2_with fail
    go_ret
    exact ⟨rfl, Below.refl _ _⟩
  have hbz : ¬ ((1048576 : Int) < (S.size : Int)) := by omega
  obtain ⟨s, hs⟩ : ∃ s, S = tx s := ⟨S.data.toList, by cases S; rfl⟩
  have hz := tx_size s
  rw [← hs] at hz
  have KS0 := specExecute_all s (by omega) w
  have KI0 := fun W hT hE => implExecute_all s (by omega) W hT hE
  rw [← hs] at KS0 KI0
  obtain ⟨R, hR⟩ : ∃ R, R = tx (execT s) := ⟨_, rfl⟩
  rw [← hR] at KS0 KI0
  have KS := Lib.hid KS0
  have KI := Lib.hid KI0
  have HT := Lib.hid hT
  have HE := Lib.hid hE
  clear hb hT hE KS0 KI0 hR hs hz
  go_enter Tryz.func3, Tryz.ntmps3
  go_wp2_with fail
  refine KS.out.mono ?_
  rintro e w1 ⟨rfl, b1⟩
  go_wp2_with fail
  refine (KI.out w1 (HT.out.below b1 (Nat.le_refl _)) (HE.out.below b1 (Nat.le_refl _))).mono ?_
  rintro e w2 ⟨rfl, b2⟩
  go_wp2_with fail
  go_ret
  exact ⟨rfl, b1.trans (b2.mono b1.size)⟩
end Go.Proofs.YtefadlbfkhndfaaGreatDoor
