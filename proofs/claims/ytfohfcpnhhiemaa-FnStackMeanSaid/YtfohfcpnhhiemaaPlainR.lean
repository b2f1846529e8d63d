/-
  Plain words on stacks: valid rows, sums, far. No program in sight.
-/
import Derived.Test.YtfohfcpnhhiemaaKit
namespace Go.Proofs.Ytfohfcpnhhiemaa
open Go.RowKit
set_option linter.unusedSimpArgs false
set_option linter.unusedVariables false

def numB (x : Int) : Bool := decide (-10000 ≤ x ∧ x ≤ 10000)
def rowB (r : List Int) : Bool := r.all numB && decide (1 ≤ r.length ∧ r.length ≤ 20)
def wid (R : List (List Int)) : Nat := (R.headD []).length
def stackB (R : List (List Int)) : Bool := R.all (fun r => rowB r && decide (r.length = wid R)) && decide (1 ≤ R.length ∧ R.length ≤ 6)
theorem numB_iff (x : Int) : numB x = true ↔ -10000 ≤ x ∧ x ≤ 10000 := by simp [numB]
theorem rowB_iff (r : List Int) : rowB r = true ↔ r.all numB = true ∧ 1 ≤ r.length ∧ r.length ≤ 20 := by simp [rowB]
theorem stackB_iff (R : List (List Int)) : stackB R = true ↔ (∀ r ∈ R, rowB r = true ∧ r.length = wid R) ∧ 1 ≤ R.length ∧ R.length ≤ 6 := by simp [stackB]
def at0 (r : List Int) (k : Nat) : Int := r.getD k 0
def sumAt (R : List (List Int)) (k : Nat) : Int := match R with
  | [] => 0
  | r :: t => at0 r k + sumAt t k
theorem sumAt_append (a b : List (List Int)) (k : Nat) : sumAt (a ++ b) k = sumAt a k + sumAt b k := by
  induction a with
  | nil => simp [sumAt]
  | cons r a ih => simp only [List.cons_append, sumAt, ih]; omega
def sums (R : List (List Int)) (m : Nat) : List Int := (List.range m).map (sumAt R)
theorem sums_length (R : List (List Int)) (m : Nat) : (sums R m).length = m := by simp [sums]
theorem sums_get (R : List (List Int)) {m k : Nat} (h : k < m) : (sums R m)[k]? = some (sumAt R k) := by simp [sums, h]
theorem at0_of {r : List Int} {k : Nat} {x : Int} (h : r[k]? = some x) : at0 r k = x := by simp [at0, List.getD_eq_getElem?_getD, h]
theorem at0_bd {r : List Int} (h : r.all numB = true) (k : Nat) : -10000 ≤ at0 r k ∧ at0 r k ≤ 10000 := by
  unfold at0
  rw [List.getD_eq_getElem?_getD]
  cases hk : r[k]? with
  | none => simp
  | some x => exact (numB_iff x).1 (List.all_eq_true.1 h x (List.mem_of_getElem? hk))
theorem sumAt_bd : ∀ {R : List (List Int)}, (∀ r ∈ R, r.all numB = true) → ∀ k, -10000 * (R.length : Int) ≤ sumAt R k ∧ sumAt R k ≤ 10000 * (R.length : Int) := by
  intro R
  induction R with
  | nil => intro _ k; simp [sumAt]
  | cons r R ih =>
    intro h k
    have h1 := ih (fun x hx => h x (List.mem_cons_of_mem _ hx)) k
    have h2 := at0_bd (h r (List.mem_cons_self ..)) k
    simp only [sumAt, List.length_cons]
    omega
theorem stack_mem {R : List (List Int)} (h : stackB R = true) {r : List Int} (hr : r ∈ R) : r.all numB = true ∧ r.length = wid R ∧ 1 ≤ r.length ∧ r.length ≤ 20 := by
  obtain ⟨h1, h2⟩ := ((stackB_iff R).1 h).1 r hr
  have := (rowB_iff r).1 h1
  exact ⟨this.1, h2, this.2⟩
theorem stack_all {R : List (List Int)} (h : stackB R = true) : ∀ r ∈ R, r.all numB = true := fun r hr => (stack_mem h hr).1
theorem stack_len {R : List (List Int)} (h : stackB R = true) : 1 ≤ R.length ∧ R.length ≤ 6 := ((stackB_iff R).1 h).2
theorem stack_wid {R : List (List Int)} (h : stackB R = true) : 1 ≤ wid R ∧ wid R ≤ 20 := by
  have h2 := stack_len h
  cases R with
  | nil => simp at h2
  | cons r t => have := stack_mem h (List.mem_cons_self ..); exact this.2.2
theorem stack_sum_bd {R : List (List Int)} (h : stackB R = true) (k : Nat) : -60000 ≤ sumAt R k ∧ sumAt R k ≤ 60000 := by
  have h1 := sumAt_bd (stack_all h) k
  have h2 := stack_len h
  omega
theorem wid_of {R : List (List Int)} {r : List Int} (h : R[0]? = some r) : wid R = r.length := by
  cases R with
  | nil => simp at h
  | cons a t => simp at h; subst h; rfl
def absI (x : Int) : Int := max x (-x)
def farOf (R : List (List Int)) (r : List Int) : Nat → Int
  | 0 => 0
  | k + 1 => farOf R r k + absI ((R.length : Int) * at0 r k - sumAt R k)
def far (R : List (List Int)) (i : Int) : Int := if stackB R = true ∧ 0 ≤ i ∧ i < (R.length : Int) then farOf R (R.getD i.toNat []) (wid R) else -1
end Go.Proofs.Ytfohfcpnhhiemaa
