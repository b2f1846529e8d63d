/-
  Plain words on the piece that has a depth.
-/
import Derived.Test.YtefadlbfkhndfaaGreatDoorGD
namespace Go.Proofs.YtefadlbfkhndfaaGreatDoor
open Go.RowKit
set_option linter.unusedSimpArgs false
set_option linter.unusedVariables false

/-- The place of the piece that has a depth, if there is one and the list is a core. -/
def hasL (l : List Pc) (d : Int) : Option Nat := if coreB l = true then atL d l else none
def hasI : Option Nat → Int
  | some k => (k : Int)
  | none => -1
theorem atL_here {l : List Pc} {k : Nat} {x y d : Int} (hx : l[k]? = some (x, y)) (hb : ∀ p ∈ l.take k, holds d p = false) (h : x ≤ d ∧ d < y) : atL d l = some k := by
  unfold atL
  obtain ⟨hk, e⟩ := List.getElem?_eq_some_iff.1 hx
  rw [List.findIdx?_eq_some_iff_getElem]
  refine ⟨hk, by rw [e]; simpa [holds] using h, fun j hj => ?_⟩
  have := hb l[j] (List.mem_take_iff_getElem.2 ⟨j, by omega, rfl⟩)
  rw [this]; simp
theorem atL_not {l : List Pc} {d : Int} (hb : ∀ p ∈ l, holds d p = false) : atL d l = none := by
  unfold atL
  rw [List.findIdx?_eq_none_iff]
  exact hb
theorem notheld_step {l : List Pc} {k : Nat} {x y d : Int} (hx : l[k]? = some (x, y)) (hb : ∀ p ∈ l.take k, holds d p = false) (h : ¬ (x ≤ d ∧ d < y)) : ∀ p ∈ l.take (k + 1), holds d p = false := by
  intro p hp
  rw [take_snoc hx] at hp
  rcases List.mem_append.1 hp with hp | hp
  · exact hb p hp
  · rw [List.mem_singleton.1 hp]
    simpa [holds] using h
theorem hasL_some {l : List Pc} {d : Int} {k : Nat} (h : hasL l d = some k) : coreB l = true ∧ ∃ x y, l[k]? = some (x, y) ∧ x ≤ d ∧ d < y := by
  unfold hasL at h
  split at h
  · exact ⟨by assumption, atL_spec h⟩
  · cases h
theorem coreCutL_eq {l : List Pc} {d : Int} : coreCutL l d = match hasL l d with
    | some k => if (l[k]?.getD (0, 0)).1 = d ∨ l.length = 20 then none else some (l.take k ++ ((l[k]?.getD (0, 0)).1, d) :: (d, (l[k]?.getD (0, 0)).2) :: l.drop (k + 1))
    | none => none := by
  unfold coreCutL hasL
  split
  · cases atL d l <;> rfl
  · rfl
theorem coreCutL_none {l : List Pc} {d : Int} (h : hasL l d = none) : coreCutL l d = none := by rw [coreCutL_eq, h]
theorem coreCutL_no {l : List Pc} {d : Int} {k : Nat} {x y : Int} (h : hasL l d = some k) (hx : l[k]? = some (x, y)) (hn : x = d ∨ l.length = 20) : coreCutL l d = none := by
  rw [coreCutL_eq, h]
  simp only [hx, Option.getD_some]
  rw [if_pos hn]
theorem coreCutL_yes {l : List Pc} {d : Int} {k : Nat} {x y : Int} (h : hasL l d = some k) (hx : l[k]? = some (x, y)) (hn : ¬ (x = d ∨ l.length = 20)) : coreCutL l d = some (l.take k ++ (x, d) :: (d, y) :: l.drop (k + 1)) := by
  rw [coreCutL_eq, h]
  simp only [hx, Option.getD_some]
  rw [if_neg hn]
end Go.Proofs.YtefadlbfkhndfaaGreatDoor
