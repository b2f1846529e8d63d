/-
  The walk of the law FnExecuteRest.
-/
import Derived.Test.YtefadlbfkhndfaaGreatDoorPlainE
import Derived.Test.YtefadlbfkhndfaaGreatDoorLastL
import Derived.Test.YtefadlbfkhndfaaGreatDoorSpecExec
import Derived.Test.YtefadlbfkhndfaaGreatDoorDrawExec
import Derived.Test.YtefadlbfkhndfaaGreatDoorGC
import Derived.Test.YtefadlbfkhndfaaGreatDoorGA
import Derived.BigQuiet
namespace Go.Proofs.YtefadlbfkhndfaaGreatDoor
open Go.RowKit
set_option linter.unusedSimpArgs false
set_option linter.unusedVariables false

set_option maxRecDepth 100000 in
set_option maxHeartbeats 4000000 in
theorem walk_FnExecuteRest (w : World) (A : Option Addr) (n c : Nat) (l : List Int) (h : Arr BB 1 w w.heap.size A n l) (hby : ∀ x ∈ l, 0 ≤ x ∧ x ≤ 255) (hc : n ≤ c) (hT : Tab w) (hE : Errs w) :
    Calls Tryz.prog 5 #[.slice A n c] w fun e w' => e = .returned (.bool true) ∧ Below w.heap.size w w' := by
  have C := Lib.hid (DrawExecute_any A n c l w h hby hc)
  have HT := Lib.hid hT
  have HE := Lib.hid hE
  clear hby h hT hE
  by_cases hb : 1048576 < n
  · go_enter Tryz.func5, Tryz.ntmps5
    go_wp2_with fail
    go_ret
    exact ⟨rfl, Below.refl _ _⟩
  go_enter Tryz.func5, Tryz.ntmps5
  go_wp2_with fail
  refine C.out.mono ?_
  rintro e w1 ⟨S, rfl, hS, b1⟩
  clear C
  obtain ⟨t, hSt⟩ : ∃ t, S = tx t := ⟨S.data.toList, by cases S; rfl⟩
  have hz := tx_size t
  rw [← hSt] at hz
  have KS0 := fun W => specExecute_all t (by omega) W
  have KI0 := fun W hT hE => implExecute_all t (by omega) W hT hE
  have KC0 := fun W => complete_any t (by omega) W
  rw [← hSt] at KS0 KI0 KC0
  obtain ⟨R, hR⟩ : ∃ R, R = tx (execT t) := ⟨_, rfl⟩
  rw [← hR] at KS0 KI0
  have KS := Lib.hid KS0
  have KI := Lib.hid KI0
  have KC := Lib.hid KC0
  have HR := Lib.hid hR
  have HZ := Lib.hid hz
  have HS := Lib.hid hS
  have HB1 := Lib.hid b1
  clear KS0 KI0 KC0 hR hSt hz hS
  go_wp2_with fail
  refine (KI.out w1 (HT.out.below b1 (Nat.le_refl _)) (HE.out.below b1 (Nat.le_refl _))).mono ?_
  rintro e w2 ⟨rfl, b2⟩
  have B2 := Lib.hid (b1.trans (b2.mono b1.size))
  go_wp2_with fail
  refine (KS.out w2).mono ?_
  rintro e w3 ⟨rfl, b3⟩
  have B3 := Lib.hid (B2.out.trans (b3.mono B2.out.size))
  have HT3 := Lib.hid (HT.out.below B3.out (Nat.le_refl _))
  have HE3 := Lib.hid (HE.out.below B3.out (Nat.le_refl _))
  clear b1 b2 b3 KS KI
  by_cases hbig : 500 < t.length
  · have f0 : (500 : Int) < (S.size : Int) := by have := HZ.out; omega
    have hRt : R = tx tooLong := by rw [HR.out]; unfold execT; rw [if_pos (by omega)]
    have teN := teq tooLong
    rw [← hRt] at teN
    unfold tooLong at teN
    clear HR HZ HS KC hRt
    go_wp2_with fail
    go_ret
    exact ⟨ret_bool (by first | rfl | exact teN | (simp [*]; done)), B3.out⟩
  have f0 : ¬ ((500 : Int) < (S.size : Int)) := by have := HZ.out; omega
  go_wp2_with fail
  refine (KC.out w3).mono ?_
  rintro e w' ⟨r, rfl, hr, rfl⟩
  have KA0 := fun W hT hE => implExecute_all r (by have := hr.len; omega) W hT hE
  rw [hr.same (by omega), ← HR.out] at KA0
  have KA := Lib.hid KA0
  clear KA0 hr KC HR HZ HS
  go_wp2_with fail
  refine (KA.out w3 HT3.out HE3.out).mono ?_
  rintro e4 w4 ⟨rfl, b4⟩
  have B4 := Lib.hid (B3.out.trans (b4.mono B3.out.size))
  go_wp2_with fail
  go_ret
  exact ⟨ret_bool (by simp), B4.out⟩
end Go.Proofs.YtefadlbfkhndfaaGreatDoor
