/-
  Contract: YearOf of the reference.
-/
import Derived.Test.YtefadlbfkhndfaaGreatDoorGD
namespace Go.Proofs.YtefadlbfkhndfaaGreatDoor
open Go.RowKit
set_option linter.unusedSimpArgs false
set_option linter.unusedVariables false

set_option maxHeartbeats 1000000 in
theorem specYearOf_any (a : Int) (ha : -1000000000000 ≤ a ∧ a ≤ 1000000000000) (w : World) :
    Calls Tryz.prog 109 #[.int .i64 a] w fun e w' => e = .returned (.tuple #[.int .i64 (ofY a), .bool (ofB a)]) ∧ w = w' := by
  obtain ⟨a0, a1⟩ := ha
  have e1 : IntKind.i64.wrap (2000 - a) = 2000 - a := IntWalk.i64_in _ ⟨by omega, by omega⟩
  have C := Lib.hid (fun W => l1Year_any (2000 - a) (yearB (2000 - a)) rfl W)
  have C6 := Lib.hid (fun r hr W => l6In_any a (-400000) 400000 r hr W)
  by_cases h : -400000 ≤ a ∧ a ≤ 400000
  · have D := Lib.hid (fun W => C6.out true (decide_eq_true h) W)
    have hB : yearB (2000 - a) = ofB a := by unfold yearB ofB; rw [Bool.eq_iff_iff]; simp; omega
    rw [hB] at C
    unfold ofY
    cases hO : ofB a with
    | false =>
      rw [hO] at C
      clear hB hO C6
      go_enter Tryz.func109, Tryz.ntmps109
      go_wp2_with (first
        | (go_at_call 61; refine (D.out _).mono ?_; rintro e w' ⟨rfl, rfl⟩)
        | (go_at_call 124; refine (C.out _).mono ?_; rintro e w' ⟨rfl, rfl⟩))
      go_ret2
      exact ⟨rfl, rfl⟩
    | true =>
      rw [hO] at C
      clear hB hO C6
      go_enter Tryz.func109, Tryz.ntmps109
      go_wp2_with (first
        | (go_at_call 61; refine (D.out _).mono ?_; rintro e w' ⟨rfl, rfl⟩)
        | (go_at_call 124; refine (C.out _).mono ?_; rintro e w' ⟨rfl, rfl⟩))
      go_ret2
      exact ⟨rfl, rfl⟩
  · have D := Lib.hid (fun W => C6.out false (decide_eq_false h) W)
    have f : ofB a = false := decide_eq_false (by omega)
    have f2 : ofY a = 0 := by unfold ofY; rw [f]; rfl
    rw [f, f2]
    clear f f2 C6
    go_enter Tryz.func109, Tryz.ntmps109
    go_wp2_with (go_at_call 61; refine (D.out _).mono ?_; rintro e w' ⟨rfl, rfl⟩)
    go_ret2
    exact ⟨rfl, rfl⟩
end Go.Proofs.YtefadlbfkhndfaaGreatDoor
