/-
  Contracts: l51Two, l51Year of the reference.
-/
import Derived.Test.YtefadlbfkhndfaaGreatDoorSpecSt
import Derived.Test.YtefadlbfkhndfaaGreatDoorGD
import Derived.Test.YtefadlbfkhndfaaGreatDoorDecB
import Derived.Test.YtefadlbfkhndfaaGreatDoorYear
import Derived.Test.YtefadlbfkhndfaaGreatDoorYearOfS
import Derived.Test.YtefadlbfkhndfaaGreatDoorLinesA
import Derived.Test.YtefadlbfkhndfaaGreatDoorGC
namespace Go.Proofs.YtefadlbfkhndfaaGreatDoor
open Go.RowKit
set_option linter.unusedSimpArgs false
set_option linter.unusedVariables false

set_option maxHeartbeats 1000000 in
theorem l51Two_any (o : Option (Nat × Nat)) (h : (0 ≤ oA o ∧ oA o ≤ 1000000) ∧ 0 ≤ oB o ∧ oB o ≤ 1000000) (w : World) :
    Calls Tryz.prog 96 #[.int .i64 (oA o), .int .i64 (oB o), .bool o.isSome] w fun e w' => e = .returned (.string (tx (twoT o ++ [10]))) ∧ Below w.heap.size w w' := by
  cases o with
  | none =>
    go_enter Tryz.func96, Tryz.ntmps96
    go_wp2
    go_ret
    exact ⟨rfl, Below.refl _ _⟩
  | some p =>
    obtain ⟨n, m⟩ := p
    simp only [oA, oB, Option.isSome_some] at h ⊢
    have hn := dec6 (u := n) (by omega)
    have hm := dec6 (u := m) (by omega)
    have I10 : ∀ W, Calls Tryz.prog 43 #[.int .i64 n] W fun e w' => e = .returned (.string (tx (dec n))) ∧ Below W.heap.size W w' := fun W => l6DecB_any n W (by omega)
    have I20 : ∀ W, Calls Tryz.prog 43 #[.int .i64 m] W fun e w' => e = .returned (.string (tx (dec m))) ∧ Below W.heap.size W w' := fun W => l6DecB_any m W (by omega)
    obtain ⟨X, hX⟩ : ∃ V, V = tx (dec n) := ⟨_, rfl⟩
    obtain ⟨Y, hY⟩ : ∃ V, V = tx (dec m) := ⟨_, rfl⟩
    obtain ⟨T1, h1⟩ : ∃ V, V = tx (dec n ++ [32]) := ⟨_, rfl⟩
    obtain ⟨T2, h2⟩ : ∃ V, V = tx (dec n ++ [32] ++ dec m) := ⟨_, rfl⟩
    obtain ⟨T3, h3⟩ : ∃ V, V = tx (twoT (some (n, m)) ++ [10]) := ⟨_, rfl⟩
    have A1 : ∀ W : World, (Op.stringOp .add X (ByteArray.mk #[32])).run Tryz.prog W = .ok (.string T1) W := by rw [hX, h1]; exact add_tx _ [32] _ rfl (by simp; omega)
    have A2 : ∀ W : World, (Op.stringOp .add T1 Y).run Tryz.prog W = .ok (.string T2) W := by rw [hY, h1, h2]; exact add_tx _ (dec m) _ rfl (by simp; omega)
    have A3 : ∀ W : World, (Op.stringOp .add T2 (ByteArray.mk #[10])).run Tryz.prog W = .ok (.string T3) W := by rw [h2, h3]; exact add_tx _ [10] _ (by simp [twoT]) (by simp [twoT]; omega)
    rw [← hX] at I10
    rw [← hY] at I20
    have I1 := Lib.hid I10
    have I2 := Lib.hid I20
    rw [← h3]
    clear I10 I20 hX hY h1 h2 h3 hn hm h
    go_enter Tryz.func96, Tryz.ntmps96
    go_wp2_with fail
    refine (I1.out _).mono ?_
    rintro e w1 ⟨rfl, b1⟩
    go_wp2_with fail
    refine (I2.out _).mono ?_
    rintro e w2 ⟨rfl, b2⟩
    go_wp2_with fail
    go_ret
    exact ⟨rfl, b1.trans (b2.mono b1.size)⟩

set_option maxHeartbeats 1000000 in
theorem l51Year_any (x : Int) (hx0 : -1 ≤ x) (hx1 : x ≤ 999999) (w : World) :
    Calls Tryz.prog 97 #[.int .i64 x] w fun e w' => e = .returned (.string (tx (yearLine x ++ [10]))) ∧ Below w.heap.size w w' := by
  have Y1 := Lib.hid (fun W => specYearOf_any x ⟨by omega, by omega⟩ W)
  by_cases h1 : x ≤ 202000
  · have hO : ofB x = true := decide_eq_true (by omega)
    have hY : ofY x = 2000 - x := by unfold ofY; rw [hO]; rfl
    rw [hO, hY] at Y1
    by_cases h0 : 0 ≤ x
    · have hE := Lib.hid (show yearLine x = yearT (2000 - x) by unfold yearLine; rw [if_pos ⟨h0, h1⟩])
      have Y20 := fun W => specYearText_any (2000 - x) ⟨by omega, by omega⟩ W
      have hl := yearT_len (2000 - x)
      obtain ⟨Z, hZ⟩ : ∃ Z, Z = tx (yearT (2000 - x)) := ⟨_, rfl⟩
      obtain ⟨T, hT⟩ : ∃ Z, Z = tx (yearLine x ++ [10]) := ⟨_, rfl⟩
      have A1 : ∀ W : World, (Op.stringOp .add Z (ByteArray.mk #[10])).run Tryz.prog W = .ok (.string T) W := by rw [hZ, hT, hE.out]; exact add_tx _ [10] _ rfl (by simp; omega)
      rw [← hZ] at Y20
      have Y2 := Lib.hid Y20
      rw [← hT]
      have f0 : ¬ (x < 0) := by omega
      clear Y20 hZ hT hl hO hY h1 h0 hx0 hx1
      go_enter Tryz.func97, Tryz.ntmps97
      go_wp2_with (first
        | (go_at_call 109; refine (Y1.out _).mono ?_; rintro e w' ⟨rfl, rfl⟩)
        | (go_at_call 110; refine (Y2.out _).mono ?_; rintro e w2 ⟨rfl, b2⟩))
      go_ret
      exact ⟨rfl, b2⟩
    · have hE := Lib.hid (show yearLine x = noT by unfold yearLine; rw [if_neg (by omega)])
      have f0 : x < 0 := by omega
      clear hO hY
      go_enter Tryz.func97, Tryz.ntmps97
      go_wp2_with (go_at_call 109; refine (Y1.out _).mono ?_; rintro e w' ⟨rfl, rfl⟩)
      go_ret
      exact ⟨ret_str (by rw [hE.out]; rfl), Below.refl _ _⟩
  · have hE := Lib.hid (show yearLine x = noT by unfold yearLine; rw [if_neg (by omega)])
    have hO : ofB x = false := decide_eq_false (by omega)
    rw [hO] at Y1
    clear hO
    go_enter Tryz.func97, Tryz.ntmps97
    go_wp2_with (go_at_call 109; refine (Y1.out _).mono ?_; rintro e w' ⟨rfl, rfl⟩)
    go_ret
    exact ⟨ret_str (by rw [hE.out]; rfl), Below.refl _ _⟩
end Go.Proofs.YtefadlbfkhndfaaGreatDoor
