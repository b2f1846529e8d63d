/-
  Contracts: YearText, YearOf of the reference.
-/
import Derived.Test.YtefadlbfkhndfaaGreatDoorGD
import Derived.Test.YtefadlbfkhndfaaGreatDoorDecB
namespace Go.Proofs.YtefadlbfkhndfaaGreatDoor
open Go.RowKit
set_option linter.unusedSimpArgs false
set_option linter.unusedVariables false

set_option maxHeartbeats 1000000 in
theorem specYearText_any (y : Int) (hy : -1000000000000 ≤ y ∧ y ≤ 1000000000000) (w : World) :
    Calls Tryz.prog 110 #[.int .i64 y] w fun e w' => e = .returned (.string (tx (yearT y))) ∧ Below w.heap.size w w' := by
  obtain ⟨y0, y1⟩ := hy
  by_cases hr : -200000 ≤ y ∧ y ≤ 200000
  · have C := Lib.hid (l1Year_any y true (by unfold yearB; exact decide_eq_true hr))
    by_cases hp : 0 < y
    · obtain ⟨u, rfl⟩ : ∃ u : Nat, y = u := ⟨y.toNat, by omega⟩
      have hu : u ≤ 10000000 := by omega
      have hE := Lib.hid (show tx (Lib.decDigits u) ++ tx [32, 67, 69] = tx (yearT u) by unfold yearT dec; rw [if_pos hr, if_pos hp, tx_add]; simp)
      have A1 : ∀ W : World, (Op.stringOp .add (tx (Lib.decDigits u)) ⟨#[32, 67, 69]⟩).run Tryz.prog W = .ok (.string (tx (yearT u))) W := yradd_at (tx (Lib.decDigits u)) (tx [32, 67, 69]) _ (by rw [tx_size [32, 67, 69]]; have := dec_sz hu; simp; omega) hE.out
      have K := Lib.hid (l6DecB_any u w hu)
      obtain ⟨T, hTT⟩ : ∃ T, T = tx (yearT u) := ⟨_, rfl⟩
      rw [← hTT] at A1
      have HTT := Lib.hid hTT
      clear hTT hr
      go_enter Tryz.func110, Tryz.ntmps110
      go_wp2_with (first
        | (go_at_call 124; refine (C.out _).mono ?_; rintro e w' ⟨rfl, rfl⟩)
        | (go_at_call 43; refine K.out.mono ?_; rintro e w2 ⟨rfl, b2⟩))
      go_ret
      exact ⟨ret_str HTT.out, b2⟩
    · obtain ⟨u, hu0⟩ : ∃ u : Nat, 1 - y = u := ⟨(1 - y).toNat, by omega⟩
      have hu : u ≤ 10000000 := by omega
      have hE := Lib.hid (show tx (Lib.decDigits u) ++ tx [32, 66, 67, 69] = tx (yearT y) by unfold yearT dec; rw [if_pos hr, if_neg hp, tx_add, hu0]; simp)
      have A1 : ∀ W : World, (Op.stringOp .add (tx (Lib.decDigits u)) ⟨#[32, 66, 67, 69]⟩).run Tryz.prog W = .ok (.string (tx (yearT y))) W := yradd_at (tx (Lib.decDigits u)) (tx [32, 66, 67, 69]) _ (by rw [tx_size [32, 66, 67, 69]]; have := dec_sz hu; simp; omega) hE.out
      have K := Lib.hid (l6DecB_any u w hu)
      obtain ⟨T, hTT⟩ : ∃ T, T = tx (yearT y) := ⟨_, rfl⟩
      rw [← hTT] at A1
      have HTT := Lib.hid hTT
      have e1 : IntKind.i64.wrap (1 - y) = (u : Int) := by rw [hu0]; exact IntWalk.i64_in _ ⟨by omega, by omega⟩
      clear hTT hr
      go_enter Tryz.func110, Tryz.ntmps110
      go_wp2_with (first
        | (go_at_call 124; refine (C.out _).mono ?_; rintro e w' ⟨rfl, rfl⟩)
        | (go_at_call 43; first | (refine K.out.mono ?_; rintro e w2 ⟨rfl, b2⟩) | (rw [hu0]; refine K.out.mono ?_; rintro e w2 ⟨rfl, b2⟩)))
      go_ret
      exact ⟨ret_str HTT.out, b2⟩
  · have C := Lib.hid (l1Year_any y false (by unfold yearB; exact decide_eq_false hr))
    have hE := Lib.hid (show yearT y = [] by unfold yearT; rw [if_neg hr])
    clear hr
    go_enter Tryz.func110, Tryz.ntmps110
    go_wp2_with (go_at_call 124; refine (C.out _).mono ?_; rintro e w' ⟨rfl, rfl⟩)
    go_ret
    exact ⟨ret_str (by rw [hE.out]; rfl), Below.refl _ _⟩

end Go.Proofs.YtefadlbfkhndfaaGreatDoor
