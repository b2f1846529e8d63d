/-
  Plain words on curves; contracts: isDepth, l11Depth, l6In.
-/
import Derived.Test.YtefadlbfkhndfaaDoorPlainC
import Derived.Test.YtefadlbfkhndfaaDoorPlainS
import Derived.Test.YtefadlbfkhndfaaDoorUnder
import Derived.Test.YtefadlbfkhndfaaDoorText
namespace Go.Proofs.YtefadlbfkhndfaaDoor
open Go.RowKit
set_option linter.unusedSimpArgs false
set_option linter.unusedVariables false

/-! ### Plain words -/
def curveFrom : Int → Int → List Pc → Bool
  | _, _, [] => true
  | a, b, p :: t => decide (a < p.1 ∧ p.1 ≤ 30000 ∧ b < p.2 ∧ p.2 ≤ 30000) && curveFrom p.1 p.2 t
def curveB (l : List Pc) : Bool := curveFrom (-1) (-1) l && decide (2 ≤ l.length ∧ l.length ≤ 12)
theorem curveFrom_cons (a b : Int) (p : Pc) (t : List Pc) : curveFrom a b (p :: t) = true ↔ (a < p.1 ∧ p.1 ≤ 30000 ∧ b < p.2 ∧ p.2 ≤ 30000) ∧ curveFrom p.1 p.2 t = true := by simp [curveFrom]
theorem curveB_iff (l : List Pc) : curveB l = true ↔ curveFrom (-1) (-1) l = true ∧ 2 ≤ l.length ∧ l.length ≤ 12 := by simp [curveB]
theorem curveFrom_mem : ∀ {l : List Pc} {a b : Int}, curveFrom a b l = true → ∀ p ∈ l, a < p.1 ∧ p.1 ≤ 30000 ∧ b < p.2 ∧ p.2 ≤ 30000 := by
  intro l
  induction l with
  | nil => intro a b h p hp; cases hp
  | cons q t ih =>
    intro a b h p hp
    rw [curveFrom_cons] at h
    rcases List.mem_cons.1 hp with rfl | hp
    · exact h.1
    · have := ih h.2 p hp; omega

/-! ### Numbers in range -/
def isD (x : Int) : Bool := decide (0 ≤ x ∧ x ≤ 30000)
theorem isDepth_any (x : Int) (r : Bool) (hr : isD x = r) (w : World) : Calls Tryd.prog 75 #[.int .i64 x] w fun e w' => e = .returned (.bool r) ∧ w = w' := by
  unfold isD at hr
  rcases (show x < 0 ∨ (0 ≤ x ∧ 30000 < x) ∨ (0 ≤ x ∧ x ≤ 30000) by omega) with h | ⟨h, h2⟩ | ⟨h, h2⟩
  · rw [decide_eq_false (by omega)] at hr
    subst hr
    go_enter Tryd.func75, Tryd.ntmps75
    go_wp2
    go_ret
    exact ⟨rfl, rfl⟩
  · rw [decide_eq_false (by omega)] at hr
    subst hr
    go_enter Tryd.func75, Tryd.ntmps75
    go_wp2
    go_ret
    exact ⟨ret_bool (by simp; omega), rfl⟩
  · rw [decide_eq_true (by omega)] at hr
    subst hr
    go_enter Tryd.func75, Tryd.ntmps75
    go_wp2
    go_ret
    exact ⟨ret_bool (by simp; try omega), rfl⟩
theorem l6In_any (x a b : Int) (r : Bool) (hr : decide (a ≤ x ∧ x ≤ b) = r) (w : World) : Calls Tryd.prog 22 #[.int .i64 x, .int .i64 a, .int .i64 b] w fun e w' => e = .returned (.bool r) ∧ w = w' := by
  rcases (show x < a ∨ (a ≤ x ∧ b < x) ∨ (a ≤ x ∧ x ≤ b) by omega) with h | ⟨h, h2⟩ | ⟨h, h2⟩
  · rw [decide_eq_false (by omega)] at hr
    subst hr
    go_enter Tryd.func22, Tryd.ntmps22
    go_wp2
    go_ret
    exact ⟨rfl, rfl⟩
  · rw [decide_eq_false (by omega)] at hr
    subst hr
    go_enter Tryd.func22, Tryd.ntmps22
    go_wp2
    go_ret
    exact ⟨ret_bool (by simp; omega), rfl⟩
  · rw [decide_eq_true (by omega)] at hr
    subst hr
    go_enter Tryd.func22, Tryd.ntmps22
    go_wp2
    go_ret
    exact ⟨rfl, rfl⟩
theorem isD_iff (x : Int) : isD x = true ↔ 0 ≤ x ∧ x ≤ 30000 := by simp [isD]
theorem isD_no {x : Int} (h : isD x = false) : ¬ (0 ≤ x ∧ x ≤ 30000) := by simpa [isD] using h

/-- How a knot stands to the one ahead of it: the loop's own words. -/
theorem curve_bad {l : List Pc} {k : Nat} {a b x y : Int} (hs : curveFrom a b (l.drop k) = curveFrom (-1) (-1) l) (hx : l[k]? = some (x, y)) (h : ¬ (a < x ∧ x ≤ 30000 ∧ b < y ∧ y ≤ 30000)) : curveB l = false := by
  unfold curveB
  rw [← hs, drop_cons hx, curveFrom, decide_eq_false (show ¬ (a < (x, y).1 ∧ (x, y).1 ≤ 30000 ∧ b < (x, y).2 ∧ (x, y).2 ≤ 30000) from h)]
  rfl
theorem curve_good {l : List Pc} {k : Nat} {a b x y : Int} (hs : curveFrom a b (l.drop k) = curveFrom (-1) (-1) l) (hx : l[k]? = some (x, y)) (h : a < x ∧ x ≤ 30000 ∧ b < y ∧ y ≤ 30000) : curveFrom x y (l.drop (k + 1)) = curveFrom (-1) (-1) l := by
  rw [← hs, drop_cons hx, curveFrom, decide_eq_true (show a < (x, y).1 ∧ (x, y).1 ≤ 30000 ∧ b < (x, y).2 ∧ (x, y).2 ≤ 30000 from h), Bool.true_and]
theorem curve_end {l : List Pc} {k n : Nat} {a b : Int} (hs : curveFrom a b (l.drop k) = curveFrom (-1) (-1) l) (hl : l.length = n) (hk : n ≤ k) : curveB l = decide (2 ≤ n ∧ n ≤ 12) := by
  unfold curveB
  rw [← hs, drop_end (by omega), hl]
  rfl


end Go.Proofs.YtefadlbfkhndfaaDoor
