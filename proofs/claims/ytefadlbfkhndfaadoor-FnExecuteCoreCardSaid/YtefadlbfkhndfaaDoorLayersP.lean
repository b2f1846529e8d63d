/-
  Plain words on layers.
-/
import Derived.Test.YtefadlbfkhndfaaDoorCurveP
namespace Go.Proofs.YtefadlbfkhndfaaDoor
open Go.RowKit
set_option linter.unusedSimpArgs false
set_option linter.unusedVariables false

abbrev Ly := Int × Bool
def layFrom : Int → List Ly → Bool
  | _, [] => true
  | a, p :: t => decide (a < p.1 ∧ p.1 ≤ 30000) && layFrom p.1 t
def layB (l : List Ly) : Bool := layFrom (-1) l && decide (l.length ≤ 40)
theorem layFrom_cons (a : Int) (p : Ly) (t : List Ly) : layFrom a (p :: t) = true ↔ (a < p.1 ∧ p.1 ≤ 30000) ∧ layFrom p.1 t = true := by simp [layFrom]
theorem layB_iff (l : List Ly) : layB l = true ↔ layFrom (-1) l = true ∧ l.length ≤ 40 := by simp [layB]
theorem layFrom_mem : ∀ {l : List Ly} {a : Int}, layFrom a l = true → ∀ p ∈ l, a < p.1 ∧ p.1 ≤ 30000 := by
  intro l
  induction l with
  | nil => intro a h p hp; cases hp
  | cons q t ih =>
    intro a h p hp
    rw [layFrom_cons] at h
    rcases List.mem_cons.1 hp with rfl | hp
    · exact h.1
    · have := ih h.2 p hp; omega
theorem layFrom_mono : ∀ {l : List Ly} {a a' : Int}, layFrom a l = true → a' ≤ a → layFrom a' l = true := by
  intro l
  cases l with
  | nil => intro _ _ _ _; rfl
  | cons p t => intro a a' h ha; rw [layFrom_cons] at h ⊢; exact ⟨⟨by omega, h.1.2⟩, h.2⟩
theorem layFrom_drop : ∀ {l : List Ly} {a : Int} (k : Nat), layFrom a l = true → layFrom a (l.drop k) = true := by
  intro l
  induction l with
  | nil => intro a k h; simp; exact h
  | cons p t ih =>
    intro a k h
    cases k with
    | zero => exact h
    | succ k => rw [layFrom_cons] at h; exact ih k (layFrom_mono h.2 (by omega))
theorem layFrom_take : ∀ {l : List Ly} {a : Int} (k : Nat), layFrom a l = true → layFrom a (l.take k) = true := by
  intro l
  induction l with
  | nil => intro a k h; simp; exact h
  | cons p t ih =>
    intro a k h
    cases k with
    | zero => rfl
    | succ k => rw [List.take_succ_cons, layFrom_cons]; rw [layFrom_cons] at h; exact ⟨h.1, ih k h.2⟩
theorem lay_bad {l : List Ly} {k : Nat} {a x : Int} {s : Bool} (hs : layFrom a (l.drop k) = layFrom (-1) l) (hx : l[k]? = some (x, s)) (h : ¬ (a < x ∧ x ≤ 30000)) : layB l = false := by
  unfold layB
  rw [← hs, drop_cons hx, layFrom, decide_eq_false (show ¬ (a < (x, s).1 ∧ (x, s).1 ≤ 30000) from h)]
  rfl
theorem lay_good {l : List Ly} {k : Nat} {a x : Int} {s : Bool} (hs : layFrom a (l.drop k) = layFrom (-1) l) (hx : l[k]? = some (x, s)) (h : a < x ∧ x ≤ 30000) : layFrom x (l.drop (k + 1)) = layFrom (-1) l := by
  rw [← hs, drop_cons hx, layFrom, decide_eq_true (show a < (x, s).1 ∧ (x, s).1 ≤ 30000 from h), Bool.true_and]
theorem lay_end {l : List Ly} {k n : Nat} {a : Int} (hs : layFrom a (l.drop k) = layFrom (-1) l) (hl : l.length = n) (hk : n ≤ k) : layB l = decide (n ≤ 40) := by
  unfold layB
  rw [← hs, drop_end (by omega), hl]
  rfl
/-! ### The text -/
def lyT (p : Ly) : List UInt8 := Lib.decDigits p.1.toNat ++ ((if p.2 then [] else [63]) ++ [10])
def laysT (l : List Ly) : List UInt8 := l.flatMap lyT
def layersT (l : List Ly) : List UInt8 := if layB l = true then laysT l else []
theorem laysT_snoc {l : List Ly} {k : Nat} {p : Ly} (h : l[k]? = some p) : laysT (l.take (k + 1)) = laysT (l.take k) ++ lyT p := by
  unfold laysT; rw [take_snoc h, List.flatMap_append]; simp
theorem laysT_len {l : List Ly} {a : Int} (h : layFrom a l = true) (ha : -1 ≤ a) : ∀ k, k ≤ l.length → (laysT (l.take k)).length ≤ 8 * k := by
  intro k
  induction k with
  | zero => intro _; simp [laysT]
  | succ k ih =>
    intro hk
    have hx : l[k]? = some l[k] := List.getElem?_eq_getElem (by omega)
    have hm := layFrom_mem h _ (List.getElem_mem (show k < l.length by omega))
    have a1 := dec_short (u := l[k].1.toNat) (by omega)
    have := ih (by omega)
    rw [laysT_snoc hx]
    unfold lyT
    split <;> simp only [List.length_append, List.length_cons, List.length_nil] <;> omega
end Go.Proofs.YtefadlbfkhndfaaDoor
