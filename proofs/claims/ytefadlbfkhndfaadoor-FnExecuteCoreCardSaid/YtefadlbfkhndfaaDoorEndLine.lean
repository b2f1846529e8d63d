/-
  Contract: the laws' own word endLine.
-/
import Derived.Test.YtefadlbfkhndfaaDoorDigits
import Derived.Test.YtefadlbfkhndfaaDoorPlainX
namespace Go.Proofs.YtefadlbfkhndfaaDoor
open Go.RowKit
set_option linter.unusedSimpArgs false
set_option linter.unusedVariables false

theorem endT_len (s : St) (h1 : s.core.length ≤ 10000) (h2 : s.lays.length ≤ 10000) : (endT s).length ≤ 40 := by
  have a1 : (dec s.core.length).length ≤ 8 := dec_len 7 _ (by omega)
  have a2 : (dec s.lays.length).length ≤ 8 := dec_len 7 _ (by omega)
  unfold endT
  simp only [List.length_append, List.length_cons, List.length_nil]
  omega
set_option maxHeartbeats 1000000 in
theorem endLine_any (n m : Nat) (s : St) (hn : s.core.length = n) (hm : s.lays.length = m) (hn' : n ≤ 10000) (hm' : m ≤ 10000) (w : World) :
    Calls Tryd.prog 11 #[.int .i64 n, .int .i64 m] w fun e w' => e = .returned (.string (tx (endT s))) ∧ Below w.heap.size w w' := by
  have I1 := Lib.hid (fun W => digits_any n W (by omega))
  have I2 := Lib.hid (fun W => digits_any m W (by omega))
  obtain ⟨X, hXx⟩ : ∃ X, X = tx (Lib.decDigits n) := ⟨_, rfl⟩
  obtain ⟨Y, hYy⟩ : ∃ Y, Y = tx (Lib.decDigits m) := ⟨_, rfl⟩
  rw [← hXx] at I1
  rw [← hYy] at I2
  have xz : X.size ≤ 8 := by rw [hXx, tx_size]; exact dec_len 7 n (by omega)
  have yz : Y.size ≤ 8 := by rw [hYy, tx_size]; exact dec_len 7 m (by omega)
  have pz : (ByteArray.mk #[112, 105, 101, 99, 101, 115, 32]).size = 7 := rfl
  have qz : (ByteArray.mk #[32, 108, 97, 121, 101, 114, 115, 32]).size = 8 := rfl
  have nz : (ByteArray.mk #[10]).size = 1 := rfl
  obtain ⟨T1, h1⟩ : ∃ T, T = (ByteArray.mk #[112, 105, 101, 99, 101, 115, 32]) ++ X := ⟨_, rfl⟩
  obtain ⟨T2, h2⟩ : ∃ T, T = T1 ++ (ByteArray.mk #[32, 108, 97, 121, 101, 114, 115, 32]) := ⟨_, rfl⟩
  obtain ⟨T3, h3⟩ : ∃ T, T = T2 ++ Y := ⟨_, rfl⟩
  have z1 : T1.size ≤ 15 := by rw [h1, ByteArray.size_append]; omega
  have z2 : T2.size ≤ 23 := by rw [h2, ByteArray.size_append]; omega
  have z3 : T3.size ≤ 31 := by rw [h3, ByteArray.size_append]; omega
  have hfin : T3 ++ (ByteArray.mk #[10]) = tx (endT s) := by
    rw [h3, h2, h1, hXx, hYy]
    show tx [112, 105, 101, 99, 101, 115, 32] ++ tx _ ++ tx [32, 108, 97, 121, 101, 114, 115, 32] ++ tx _ ++ tx [10] = _
    rw [tx_add, tx_add, tx_add, tx_add]
    unfold endT
    rw [hn, hm]
    rfl
  have A1 := add_at (ByteArray.mk #[112, 105, 101, 99, 101, 115, 32]) X T1 (by omega) h1.symm
  have A2 := add_at T1 (ByteArray.mk #[32, 108, 97, 121, 101, 114, 115, 32]) T2 (by omega) h2.symm
  have A3 := add_at T2 Y T3 (by omega) h3.symm
  have A4 := add_at T3 (ByteArray.mk #[10]) (tx (endT s)) (by omega) hfin
  clear hXx hYy h1 h2 h3 hfin pz qz nz xz yz z1 z2 z3 hn hm
  go_enter Tryd.func11, Tryd.ntmps11
  go_wp2_with fail
  refine (I1.out _).mono ?_
  rintro e w1 ⟨rfl, b1⟩
  go_wp2_with fail
  refine (I2.out _).mono ?_
  rintro e w2 ⟨rfl, b2⟩
  go_wp2_with fail
  go_ret
  exact ⟨rfl, b1.trans (b2.mono b1.size)⟩
end Go.Proofs.YtefadlbfkhndfaaDoor
