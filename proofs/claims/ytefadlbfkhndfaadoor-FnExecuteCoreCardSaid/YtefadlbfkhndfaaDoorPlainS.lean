/-
  Plain words on samples: orders, needs, widths. No program in sight.
-/
import Derived.Test.YtefadlbfkhndfaaDoorKit
namespace Go.Proofs.YtefadlbfkhndfaaDoor
open Go.RowKit
set_option linter.unusedSimpArgs false
set_option linter.unusedVariables false

def okOrder (o : Int × Int) : Bool := decide (1 ≤ o.1 ∧ o.1 ≤ 1000 ∧ 1 ≤ o.2 ∧ o.2 ≤ 20)
theorem okOrder_iff (x y : Int) : okOrder (x, y) = true ↔ 1 ≤ x ∧ x ≤ 1000 ∧ 1 ≤ y ∧ y ≤ 20 := by simp [okOrder]
def needOf : List (Int × Int) → Int
  | [] => 0
  | o :: l => o.1 * o.2 + needOf l
def ordersB (l : List (Int × Int)) : Bool := l.all okOrder && decide (l.length ≤ 8)
def need (l : List (Int × Int)) : Int := if ordersB l = true then needOf l else -1

theorem needOf_append (a b : List (Int × Int)) : needOf (a ++ b) = needOf a + needOf b := by
  induction a with
  | nil => simp [needOf]
  | cons o a ih => simp only [List.cons_append, needOf, ih]; omega

theorem prod_bd {x y : Int} (h : okOrder (x, y) = true) : 1 ≤ x * y ∧ x * y ≤ 20000 ∧ y ≤ x * y := by
  rw [okOrder_iff] at h
  obtain ⟨h1, h2, h3, h4⟩ := h
  refine ⟨?_, ?_, ?_⟩
  · have := Int.mul_le_mul h1 h3 (by omega) (by omega); omega
  · have := Int.mul_le_mul h2 h4 (by omega) (by omega); omega
  · have := Int.mul_le_mul_of_nonneg_right h1 (show 0 ≤ y by omega); omega

theorem needOf_bd : ∀ {l : List (Int × Int)}, l.all okOrder = true → 0 ≤ needOf l ∧ needOf l ≤ 20000 * l.length := by
  intro l
  induction l with
  | nil => intro _; simp [needOf]
  | cons o l ih =>
    intro h
    simp only [List.all_cons, Bool.and_eq_true] at h
    have h1 := ih h.2
    have h2 := prod_bd (x := o.1) (y := o.2) h.1
    simp only [needOf, List.length_cons]
    omega

theorem take_snoc {α : Type} {l : List α} {k : Nat} {x : α} (h : l[k]? = some x) : l.take (k + 1) = l.take k ++ [x] := by
  rw [List.take_add_one, h]; rfl
theorem all_snoc {α : Type} {p : α → Bool} {l : List α} {x : α} (h : l.all p = true) (hx : p x = true) : (l ++ [x]).all p = true := by simp only [List.all_append, h, hx, List.all_cons, List.all_nil, Bool.and_self]
theorem not_all {α : Type} {p : α → Bool} {l : List α} {k : Nat} {x : α} (h : l[k]? = some x) (hx : p x = false) : l.all p = false := by
  rw [Bool.eq_false_iff]
  intro hall
  have := List.all_eq_true.1 hall x (List.mem_of_getElem? h)
  rw [hx] at this
  cases this
theorem needOf_snoc (l : List (Int × Int)) (x y : Int) : needOf (l ++ [(x, y)]) = needOf l + x * y := by rw [needOf_append]; simp [needOf]
theorem ordersB_iff (l : List (Int × Int)) : ordersB l = true ↔ l.all okOrder = true ∧ l.length ≤ 8 := by simp [ordersB]
theorem need_bad {l : List (Int × Int)} (h : l.all okOrder = false) : need l = -1 := by unfold need ordersB; rw [h]; rfl
theorem need_long {l : List (Int × Int)} (h : 8 < l.length) : need l = -1 := by unfold need; rw [if_neg]; rw [ordersB_iff]; omega
theorem need_good {l : List (Int × Int)} (h : l.all okOrder = true) (h8 : l.length ≤ 8) : need l = needOf l := by unfold need; rw [if_pos ((ordersB_iff l).2 ⟨h, h8⟩)]
theorem need_nonneg {l : List (Int × Int)} (h : 0 ≤ need l) : ordersB l = true := by
  unfold need at h
  split at h
  · assumption
  · omega

/-! ### Widths -/
def widths (l : List (Int × Int)) : List Int := l.flatMap fun o => List.replicate o.2.toNat o.1
theorem widths_snoc (l : List (Int × Int)) (x y : Int) : widths (l ++ [(x, y)]) = widths l ++ List.replicate y.toNat x := by simp [widths]
theorem widths_bd : ∀ {l : List (Int × Int)}, l.all okOrder = true → (widths l).length ≤ 20 * l.length := by
  intro l
  induction l with
  | nil => intro _; simp [widths]
  | cons o l ih =>
    intro h
    simp only [List.all_cons, Bool.and_eq_true] at h
    have h1 := ih h.2
    have h2 := (okOrder_iff o.1 o.2).1 h.1
    simp only [widths, List.flatMap_cons, List.length_append, List.length_replicate, List.length_cons] at h1 ⊢
    omega
theorem widths_need : ∀ {l : List (Int × Int)}, l.all okOrder = true → ((widths l).length : Int) ≤ needOf l ∧ (widths l).foldl (· + ·) 0 = needOf l := by
  have fold : ∀ (a : List Int) (s : Int), a.foldl (· + ·) s = s + a.foldl (· + ·) 0 := by
    intro a
    induction a with
    | nil => intro s; simp
    | cons x a ih => intro s; simp only [List.foldl_cons]; rw [ih (s + x), ih (0 + x)]; omega
  have rep : ∀ (n : Nat) (x : Int), (List.replicate n x).foldl (· + ·) 0 = n * x := by
    intro n x
    induction n with
    | zero => simp
    | succ n ih => rw [List.replicate_succ, List.foldl_cons, fold, ih]; rw [show ((n + 1 : Nat) : Int) = (n : Int) + 1 by omega, Int.add_mul]; omega
  intro l
  induction l with
  | nil => intro _; simp [widths, needOf]
  | cons o l ih =>
    intro h
    simp only [List.all_cons, Bool.and_eq_true] at h
    have h1 := ih h.2
    have h2 := (okOrder_iff o.1 o.2).1 h.1
    have h3 := prod_bd (x := o.1) (y := o.2) h.1
    have e : widths (o :: l) = List.replicate o.2.toNat o.1 ++ widths l := by simp [widths]
    rw [e, List.length_append, List.length_replicate, List.foldl_append, fold, rep, h1.2]
    simp only [needOf]
    have : ((o.2.toNat : Nat) : Int) = o.2 := by omega
    refine ⟨by omega, ?_⟩
    rw [this, Int.mul_comm]
def sumI : List Int → Int
  | [] => 0
  | x :: l => x + sumI l
theorem sumI_append (a b : List Int) : sumI (a ++ b) = sumI a + sumI b := by
  induction a with
  | nil => simp [sumI]
  | cons x a ih => simp only [List.cons_append, sumI, ih]; omega
theorem sumI_replicate (n : Nat) (x : Int) : sumI (List.replicate n x) = n * x := by
  induction n with
  | zero => simp [sumI]
  | succ n ih => rw [List.replicate_succ, sumI, ih, show ((n + 1 : Nat) : Int) = (n : Int) + 1 by omega, Int.add_mul]; omega
theorem sumI_widths : ∀ {l : List (Int × Int)}, l.all okOrder = true → sumI (widths l) = needOf l := by
  intro l
  induction l with
  | nil => intro _; rfl
  | cons o l ih =>
    intro h
    simp only [List.all_cons, Bool.and_eq_true] at h
    have h2 := (okOrder_iff o.1 o.2).1 h.1
    have e : widths (o :: l) = List.replicate o.2.toNat o.1 ++ widths l := by simp [widths]
    rw [e, sumI_append, sumI_replicate, ih h.2, needOf, show ((o.2.toNat : Nat) : Int) = o.2 by omega, Int.mul_comm]
theorem widths_all : ∀ {l : List (Int × Int)}, l.all okOrder = true → ∀ x ∈ widths l, 1 ≤ x ∧ x ≤ 1000 := by
  intro l h x hx
  simp only [widths, List.mem_flatMap] at hx
  obtain ⟨o, ho, hx⟩ := hx
  have := List.eq_of_mem_replicate hx
  subst this
  have := (okOrder_iff o.1 o.2).1 (List.all_eq_true.1 h o ho)
  omega
end Go.Proofs.YtefadlbfkhndfaaDoor
