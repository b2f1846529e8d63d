/-
  Plain laws of fractions in lowest terms. No program in sight.
-/
import Derived.Test.YtfohfcpnhhiemaaPlainR
namespace Go.Proofs.Ytfohfcpnhhiemaa
open Go.RowKit
set_option linter.unusedSimpArgs false
set_option linter.unusedVariables false

def fr (a b : Int) : Int × Int := (a / (Int.gcd a b : Int), b / (Int.gcd a b : Int))
theorem gcd_facts {a b : Int} (h : 0 < b) : ∃ g s d : Int, (Int.gcd a b : Int) = g ∧ 0 < g ∧ a = g * s ∧ b = g * d ∧ 0 < d ∧ fr a b = (s, d) ∧ Int.gcd s d = 1 := by
  have hg : 0 < Int.gcd a b := Int.gcd_pos_of_ne_zero_right a (by omega)
  have h1 := Int.gcd_dvd_left a b
  have h2 := Int.gcd_dvd_right a b
  have e1 := Int.mul_ediv_cancel' h1
  have e2 := Int.mul_ediv_cancel' h2
  have hg' : 0 < (Int.gcd a b : Int) := by omega
  refine ⟨Int.gcd a b, a / Int.gcd a b, b / Int.gcd a b, rfl, hg', e1.symm, e2.symm, ?_, rfl, ?_⟩
  · rcases Int.lt_or_le 0 (b / (Int.gcd a b : Int)) with h3 | h3
    · exact h3
    · exfalso
      have := Int.mul_nonpos_of_nonneg_of_nonpos (Int.le_of_lt hg') h3
      omega
  · have h3 : Int.gcd (Int.gcd a b * (a / (Int.gcd a b : Int))) (Int.gcd a b * (b / (Int.gcd a b : Int))) = (Int.gcd a b : Int).natAbs * Int.gcd (a / (Int.gcd a b : Int)) (b / (Int.gcd a b : Int)) := Int.gcd_mul_left _ _ _
    rw [e1, e2, Int.natAbs_natCast] at h3
    have h4 : Int.gcd a b * 1 = Int.gcd a b * Int.gcd (a / (Int.gcd a b : Int)) (b / (Int.gcd a b : Int)) := by omega
    exact (Nat.eq_of_mul_eq_mul_left hg h4).symm
theorem fr_mk {g s d : Int} (hg : 0 < g) (h : Int.gcd s d = 1) : fr (g * s) (g * d) = (s, d) := by
  have e : (Int.gcd (g * s) (g * d) : Int) = g := by
    rw [Int.gcd_mul_left, h]; simp; omega
  unfold fr
  rw [e, Int.mul_ediv_cancel_left _ (by omega), Int.mul_ediv_cancel_left _ (by omega)]
theorem fr_one (a : Int) : fr a 1 = (a, 1) := by
  unfold fr; simp
theorem fr_scale {a b : Int} (k : Int) (hk : 0 < k) (hb : 0 < b) : fr (k * a) (k * b) = fr a b := by
  obtain ⟨g, s, d, _, hg, ea, eb, hd, e, h1⟩ := gcd_facts (a := a) hb
  rw [e, ea, eb, ← Int.mul_assoc, ← Int.mul_assoc]
  exact fr_mk (Int.mul_pos hk hg) h1
/-- A mean times the number. -/
theorem fr_times {a n : Int} (hn : 0 < n) : fr ((fr a n).1 * n) ((fr a n).2 * 1) = (a, 1) := by
  obtain ⟨g, s, d, _, hg, ea, eb, hd, e, h1⟩ := gcd_facts (a := a) hn
  rw [e]
  simp only
  have e1 : s * n = d * a := by rw [ea, eb]; ac_rfl
  rw [e1]
  exact fr_mk hd (by simp)
theorem fr_bd {a b L : Int} (hb : 0 < b) (h1 : -L ≤ a) (h2 : a ≤ L) : -L ≤ (fr a b).1 ∧ (fr a b).1 ≤ L ∧ 1 ≤ (fr a b).2 ∧ (fr a b).2 ≤ b := by
  obtain ⟨g, s, d, _, hg, ea, eb, hd, e, _⟩ := gcd_facts (a := a) hb
  rw [e]
  simp only
  have hd2 : d ≤ b := by rw [eb]; have := Int.mul_le_mul_of_nonneg_right (show (1 : Int) ≤ g by omega) (show 0 ≤ d by omega); omega
  have hs : -L ≤ s ∧ s ≤ L := by
    rcases Int.lt_or_le s 0 with h | h
    · have := Int.mul_le_mul_of_nonneg_right (show (1 : Int) ≤ g by omega) (show 0 ≤ -s by omega)
      have e3 : g * -s = - a := by rw [ea]; exact Int.mul_neg _ _
      omega
    · have := Int.mul_le_mul_of_nonneg_right (show (1 : Int) ≤ g by omega) h
      rw [← ea] at this
      omega
  omega
theorem fr_low {a b : Int} (hb : 0 < b) : Int.gcd (fr a b).1 (fr a b).2 = 1 := by
  obtain ⟨g, s, d, _, hg, ea, eb, hd, e, h⟩ := gcd_facts (a := a) hb
  rw [e]; exact h
/-- A fraction against a whole number. -/
theorem fr_less {a b x : Int} (hb : 0 < b) : (fr a b).1 * 1 < x * (fr a b).2 ↔ a < x * b := by
  obtain ⟨g, s, d, _, hg, ea, eb, hd, e, h⟩ := gcd_facts (a := a) hb
  rw [e]
  simp only [Int.mul_one]
  have e1 : x * b = g * (x * d) := by rw [eb]; ac_rfl
  rw [e1, ea]
  exact (Int.mul_lt_mul_left hg).symm
theorem fr_more {a b x : Int} (hb : 0 < b) : x * (fr a b).2 < (fr a b).1 * 1 ↔ x * b < a := by
  obtain ⟨g, s, d, _, hg, ea, eb, hd, e, h⟩ := gcd_facts (a := a) hb
  rw [e]
  simp only [Int.mul_one]
  have e1 : x * b = g * (x * d) := by rw [eb]; ac_rfl
  rw [e1, ea]
  exact (Int.mul_lt_mul_left hg).symm
theorem gcd_step (a b : Int) : Int.gcd b (a.tmod b) = Int.gcd a b := by
  rw [Int.tmod_def, Int.gcd_sub_mul_left_right, Int.gcd_comm]
/-- The means of the places. -/
def means (R : List (List Int)) (m : Nat) : List (Int × Int) := (List.range m).map fun k => fr (sumAt R k) R.length
theorem means_length (R : List (List Int)) (m : Nat) : (means R m).length = m := by simp [means]
theorem means_get (R : List (List Int)) {m k : Nat} (h : k < m) : (means R m)[k]? = some (fr (sumAt R k) R.length) := by simp [means, h]
theorem means_succ (R : List (List Int)) (k : Nat) : means R (k + 1) = means R k ++ [fr (sumAt R k) R.length] := by unfold means; rw [List.range_succ, List.map_append]; rfl
def meansR (R : List (List Int)) : List (Int × Int) := if stackB R = true then means R (wid R) else []
end Go.Proofs.Ytfohfcpnhhiemaa
