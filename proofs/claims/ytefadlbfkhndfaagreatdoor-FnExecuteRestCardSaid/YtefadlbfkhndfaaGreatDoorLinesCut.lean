/-
  The line "cut W" is a line that execute is known at.
-/
import Derived.Test.YtefadlbfkhndfaaGreatDoorExecKA
import Derived.Test.YtefadlbfkhndfaaGreatDoorGD
namespace Go.Proofs.YtefadlbfkhndfaaGreatDoor
open Go.RowKit
set_option linter.unusedSimpArgs false
set_option linter.unusedVariables false

theorem coreCutL_bd {l l' : List Pc} {d : Int} (h : coreCutL l d = some l') : coreB l = true ∧ 0 ≤ d ∧ d ≤ 30000 := by
  rw [coreCutL_eq] at h
  cases hh : hasL l d with
  | none => rw [hh] at h; cases h
  | some k =>
    obtain ⟨hB, x, y, hx, h1, h2⟩ := hasL_some hh
    have := coreFrom_mem ((coreB_iff l).1 hB).1 _ (List.mem_of_getElem? hx)
    simp only at this
    exact ⟨hB, by omega, by omega⟩
theorem lineOk_cutA {s : St} {a : List UInt8} (ha : a.length ≤ 1000000) (hB : coreB s.core = true) : LineOk s [wCut, a] := by
  have h20 := ((coreB_iff _).1 hB).2
  unfold LineOk
  rw [line_cut]
  cases hC : coreCutL s.core (dig a) with
  | some L' =>
    refine ⟨by show okT.length ≤ 1000; decide, fun w g k hs hT hE hgk hk => ?_⟩
    refine (exec_cut_yes g k a ha s w hs L' (by omega) hT hE (Array.getElem?_eq_some_iff.1 hk).1 ((Lib.cell_of_heap hk 0).trans rfl) ((Lib.cell_of_heap hk 1).trans rfl) hC).mono ?_
    rintro e w' ⟨rfl, h1, h2⟩
    exact ⟨_, _, rfl, rfl, h1, h2⟩
  | none =>
    refine ⟨by show noT.length ≤ 1000; decide, fun w g k hs hT hE hgk hk => ?_⟩
    refine (exec_cut_no g k a ha s w hs (by omega) hT hE (Array.getElem?_eq_some_iff.1 hk).1 ((Lib.cell_of_heap hk 0).trans rfl) ((Lib.cell_of_heap hk 1).trans rfl) hC).mono ?_
    rintro e w' ⟨rfl, h1, h2⟩
    exact ⟨_, _, rfl, rfl, h1, h2⟩
end Go.Proofs.YtefadlbfkhndfaaGreatDoor
