/-
  Contract: l6Many of the reference, by the length of what it returns.
-/
import Derived.Test.YtefadlbfkhndfaaGreatDoorDrawOf
namespace Go.Proofs.YtefadlbfkhndfaaGreatDoor
open Go.RowKit
set_option linter.unusedSimpArgs false
set_option linter.unusedVariables false

set_option maxHeartbeats 2000000 in
theorem l6Many_any (S : ByteArray) (n : Nat) (hn : n * S.size ≤ 1000) (h0 : S.size ≤ 1000) (hn9 : n ≤ 1000) (w : World) :
    Calls Tryz.prog 55 #[.string S, .int .i64 n] w fun e w' => ∃ T : ByteArray, e = .returned (.string T) ∧ T.size ≤ 1000 ∧ w = w' := by
  go_enter Tryz.func55, Tryz.ntmps55
  go_wp2_with fail
  go_loopw [0, 1, 5] (fun s k o wr => ∃ (Z O : ByteArray) (m : Nat), s = .string Z ∧ k = .int .i64 m ∧ o = .string O ∧ O.size + m * Z.size ≤ 1000 ∧ Z.size ≤ 2000 ∧ O.size ≤ 1000 ∧ m ≤ 1000 ∧ w = wr) (fun _ k _ _ => (intOf k).toNat)
  case atStart => exact ⟨S, ⟨#[]⟩, n, rfl, rfl, rfl, by show 0 + _ ≤ _; omega, by omega, by show 0 ≤ _; omega, hn9, rfl⟩
  case round =>
    obtain ⟨Z, O, m, rfl, rfl, rfl, hsz, hZ, hO, hm, rfl⟩ := hrel
    by_cases h : m = 0
    · subst h
      go_wp2_with fail
      go_ret
      exact ⟨O, rfl, hO, rfl⟩
    · have m0 : (0 : Int) < (m : Int) := by omega
      obtain ⟨q, r, hq, hr⟩ : ∃ q r, m = 2 * q + r ∧ r < 2 := ⟨m / 2, m % 2, by omega, by omega⟩
      have d2 : (m : Int).tdiv 2 = (q : Int) := by rw [Int.tdiv_eq_ediv_of_nonneg (by omega)]; omega
      have r2 : (m : Int).tmod 2 = (r : Int) := by rw [Int.tmod_eq_emod_of_nonneg (by omega)]; omega
      have hmul : m * Z.size = 2 * (q * Z.size) + r * Z.size := by rw [hq, Nat.add_mul, Nat.mul_assoc]
      have hZ1 : Z.size ≤ 1000 := by
        have : 1 * Z.size ≤ m * Z.size := Nat.mul_le_mul_right _ (by omega)
        omega
      obtain ⟨Z2, hZ2⟩ : ∃ Y, Y = Z ++ Z := ⟨_, rfl⟩
      have z2 : Z2.size = Z.size + Z.size := by rw [hZ2, ByteArray.size_append]
      have A2 : ∀ W : World, (Op.stringOp .add Z Z).run Tryz.prog W = .ok (.string Z2) W := add_at Z Z Z2 (by omega) hZ2.symm
      have hmul2 : q * Z2.size = 2 * (q * Z.size) := by rw [z2, Nat.mul_add]; omega
      clear hZ2
      have HW := Lib.hid (show wrap64 (q : Int) = (q : Int) by unfold wrap64; omega)
      by_cases hr1 : r = 1
      · subst hr1
        obtain ⟨O2, hO2⟩ : ∃ Y, Y = O ++ Z := ⟨_, rfl⟩
        have o2 : O2.size = O.size + Z.size := by rw [hO2, ByteArray.size_append]
        have A1 : ∀ W : World, (Op.stringOp .add O Z).run Tryz.prog W = .ok (.string O2) W := add_at O Z O2 (by omega) hO2.symm
        clear hO2
        have HX := Lib.hid (And.intro hsz (And.intro hmul (And.intro hmul2 (And.intro z2 (And.intro o2 hq)))))
        clear hsz hmul hmul2 z2 o2 hq
        go_wp2_with fail
        go_roundw
        case rel => 
          obtain ⟨hsz, hmul, hmul2, z2, o2, hq⟩ := HX.out
          exact ⟨Z2, O2, q, rfl, by rw [HW.out], rfl, by omega, by omega, by omega, by omega, by trivial⟩
        case measure => 
          obtain ⟨hsz, hmul, hmul2, z2, o2, hq⟩ := HX.out
          rw [HW.out]; simp [intOf]; omega
      · obtain rfl : r = 0 := by omega
        have HX := Lib.hid (And.intro hsz (And.intro hmul (And.intro hmul2 (And.intro z2 hq))))
        clear hsz hmul hmul2 z2 hq
        go_wp2_with fail
        go_roundw
        case rel => 
          obtain ⟨hsz, hmul, hmul2, z2, hq⟩ := HX.out
          exact ⟨Z2, O, q, rfl, by rw [HW.out], rfl, by omega, by omega, by omega, by omega, by trivial⟩
        case measure => 
          obtain ⟨hsz, hmul, hmul2, z2, hq⟩ := HX.out
          rw [HW.out]; simp [intOf]; omega
end Go.Proofs.YtefadlbfkhndfaaGreatDoor
