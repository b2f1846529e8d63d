/-
  Contracts: gcd and l2Gcd, FracValid and FracOf of the program and the reference, at a numerator of moderate size and a positive denominator.
-/
import Derived.Test.YtfohfcpnhhiemaaFar
import Derived.Test.YtfohfcpnhhiemaaPlainF
namespace Go.Proofs.Ytfohfcpnhhiemaa
open Go.RowKit
set_option linter.unusedSimpArgs false
set_option linter.unusedVariables false

theorem tmod_bd {x y B : Int} (hy : y ≠ 0) (h : -B ≤ x ∧ x ≤ B) : -B ≤ x.tmod y ∧ x.tmod y ≤ B ∧ (x.tmod y).natAbs < y.natAbs := by
  have h1 := Int.natAbs_tmod x y
  have h2 : x.natAbs % y.natAbs ≤ x.natAbs := Nat.mod_le _ _
  have h3 : x.natAbs % y.natAbs < y.natAbs := Nat.mod_lt _ (by omega)
  omega

set_option maxHeartbeats 400000 in
theorem gcd_any (a b : Int) (w : World) (ha : -1000000 ≤ a ∧ a ≤ 1000000) (hb : -1000000 ≤ b ∧ b ≤ 1000000) :
    Calls Try.prog 68 #[.int .i64 a, .int .i64 b] w fun e w' => e = .returned (.int .i64 (Int.gcd a b)) ∧ Below w.heap.size w w' := by
  obtain ⟨a1, a2⟩ := ha
  obtain ⟨b1, b2⟩ := hb
  go_enter Try.func68, Try.ntmps68
  go_wp2
  go_loopw [0, 1] (fun s t wr => ∃ x y : Int, s = .int .i64 x ∧ t = .int .i64 y ∧ Hid (Int.gcd x y = Int.gcd a b) ∧ -1000000 ≤ x ∧ x ≤ 1000000 ∧ -1000000 ≤ y ∧ y ≤ 1000000 ∧ Below w.heap.size w wr) (fun _ t _ => (intOf t).natAbs)
  case atStart => exact ⟨a, b, rfl, rfl, Lib.hid rfl, a1, a2, b1, b2, Below.refl _ _⟩
  case round =>
    clear a1 a2 b1 b2
    obtain ⟨x, y, rfl, rfl, hg, x1, x2, y1, y2, hbw⟩ := hrel
    by_cases hy : y = 0
    · subst hy
      have hG := Lib.hid (show (Int.gcd a b : Int) = x.natAbs by rw [← hg.out]; simp)
      clear hg
      rcases (show x < 0 ∨ x = 0 ∨ 0 < x by omega) with hx | hx | hx
      · go_wp2
        go_ret
        exact ⟨ret_int (by rw [hG.out]; omega), hbw⟩
      · subst hx
        go_wp2
        go_ret
        exact ⟨ret_int (by rw [hG.out]; rfl), hbw⟩
      · go_wp2
        go_ret
        exact ⟨ret_int (by rw [hG.out]; omega), hbw⟩
    · obtain ⟨m1, m2, m3⟩ := tmod_bd hy ⟨x1, x2⟩
      have hg2 : Hid (Int.gcd y (x.tmod y) = Int.gcd a b) := Lib.hid (by rw [gcd_step]; exact hg.out)
      have M3 := Lib.hid m3
      have f0 : (y != 0) = true := by simp [hy]
      have e1 : wrap64 (x.tmod y) = x.tmod y := w64' (by omega)
      clear m3
      go_wp2_with fail
      go_region
      all_goals
        go_wp2
        go_roundw
        case rel => exact ⟨y, _, rfl, rfl, hg2, y1, y2, by omega, by omega, by first | exact hbw | exact hbw.drew | exact below_drewN hbw _⟩
        case measure => simp [intOf]; first | exact Nat.mod_lt _ (Int.natAbs_pos.2 hy) | exact M3.out

set_option maxHeartbeats 400000 in
theorem l2Gcd_any (a b : Int) (w : World) (ha : 0 ≤ a ∧ a ≤ 1000000) (hb : 0 ≤ b ∧ b ≤ 1000000) :
    Calls Try.prog 69 #[.int .i64 a, .int .i64 b] w fun e w' => e = .returned (.int .i64 (Int.gcd a b)) ∧ w = w' := by
  obtain ⟨a1, a2⟩ := ha
  obtain ⟨b1, b2⟩ := hb
  go_enter Try.func69, Try.ntmps69
  go_wp2
  go_loop [0, 1, 5] (fun s t c => ∃ x y z : Int, s = .int .i64 x ∧ t = .int .i64 y ∧ Hid (Int.gcd x y = Int.gcd a b) ∧ 0 ≤ x ∧ x ≤ 1000000 ∧ 0 ≤ y ∧ y ≤ 1000000) (fun _ t _ => (intOf t).natAbs)
  case atStart => exact ⟨a, b, 0, rfl, rfl, Lib.hid rfl, a1, a2, b1, b2⟩
  case round =>
    clear a1 a2 b1 b2
    obtain ⟨x, y, z, rfl, rfl, hg, x1, x2, y1, y2⟩ := hrel
    by_cases hy : y = 0
    · subst hy
      have hG := Lib.hid (show (Int.gcd a b : Int) = x by rw [← hg.out]; simp; omega)
      clear hg
      go_wp2
      go_ret
      exact ⟨ret_int (by rw [hG.out]), rfl⟩
    · have hy0 : 0 < y := by omega
      have m1 := Int.emod_nonneg x hy
      have m2 := Int.emod_lt_of_pos x hy0
      have et : x.tmod y = x % y := Int.tmod_eq_emod_of_nonneg x1
      have hg2 : Hid (Int.gcd y (x % y) = Int.gcd a b) := Lib.hid (by rw [← et, gcd_step]; exact hg.out)
      have f0 : (y != 0) = true := by simp [hy]
      clear et
      go_wp2
      go_round
      case rel => exact ⟨y, x % y, 0, rfl, rfl, hg2, y1, y2, m1, by omega⟩
      case measure => simp [intOf]; omega

set_option maxHeartbeats 400000 in
theorem implFracValid_yes (x d : Int) (w : World) (hx : -1000000 ≤ x ∧ x ≤ 1000000) (hd : 1 ≤ d ∧ d ≤ 1000000) (h1 : Int.gcd x d = 1) :
    Calls Try.prog 62 #[.agg #[.int .i64 x, .int .i64 d]] w fun e w' => e = .returned (.bool true) ∧ Below w.heap.size w w' := by
  have K := fun W => gcd_any x d W hx (by omega)
  rw [h1] at K
  have K' := Lib.hid K
  obtain ⟨x1, x2⟩ := hx
  obtain ⟨d1, d2⟩ := hd
  clear K h1
  have b1 : Below w.heap.size w (w.alloc (.cells #[.int .i64 x, .int .i64 d] 45)) := (Below.refl _ _).alloc (Nat.le_refl _) _
  have B1 := Lib.hid b1
  clear b1
  go_enter Try.func62, Try.ntmps62
  go_wp2_with fail
  refine (K'.out _).mono ?_
  rintro e w1 ⟨rfl, b1⟩
  go_wp2
  go_ret
  exact ⟨rfl, B1.out.trans (b1.mono (by simp))⟩
end Go.Proofs.Ytfohfcpnhhiemaa
