/-
  The lines that build a core, and two more.
-/
import Derived.Test.YtefadlbfkhndfaaGreatDoorLinesA
namespace Go.Proofs.YtefadlbfkhndfaaGreatDoor
open Go.RowKit
set_option linter.unusedSimpArgs false
set_option linter.unusedVariables false

theorem linesA_pieces {l : List Pc} (h : coreB l = true) (R : List (List UInt8)) : ∀ j x, j < l.length → (l.map pieceLine ++ R)[j]? = some x → LineOk (runX st0 ((l.map pieceLine ++ R).take j)).1 (splitB 32 x) := by
  intro j x hj hx
  obtain ⟨hF, h20⟩ := (coreB_iff l).1 h
  have hl : l[j]? = some l[j] := List.getElem?_eq_getElem hj
  rw [List.getElem?_append_left (by rw [List.length_map]; exact hj), List.getElem?_map, hl] at hx
  injection hx with hx
  subst hx
  rw [List.take_append_of_le_length (by rw [List.length_map]; omega), ← List.map_take, run_pieces (coreB_take h j), pieceLine_words]
  have hm := coreFrom_mem hF _ (List.getElem_mem hj)
  have h1 := dec6 (u := l[j].1.toNat) (by omega)
  have h2 := dec6 (u := l[j].2.toNat) (by omega)
  exact lineOk_pieceA (by omega) (by omega) (by show (l.take j).length ≤ 900; rw [List.length_take]; omega)
theorem linesA_two {l : List Pc} {y z : List UInt8} (h : coreB l = true) (hy : LineOk ⟨l, []⟩ (splitB 32 y)) (hz : LineOk (lineX ⟨l, []⟩ (splitB 32 y)).1 (splitB 32 z)) :
    ∀ j x, (l.map pieceLine ++ [y, z])[j]? = some x → LineOk (runX st0 ((l.map pieceLine ++ [y, z]).take j)).1 (splitB 32 x) := by
  intro j x hx
  by_cases hj : j < l.length
  · exact linesA_pieces h _ j x hj hx
  · obtain ⟨i, rfl⟩ : ∃ i, j = l.length + i := ⟨j - l.length, by omega⟩
    rw [List.getElem?_append_right (by rw [List.length_map]; omega), List.length_map, Nat.add_sub_cancel_left] at hx
    match i, hx with
    | 0, hx =>
      injection hx with hx
      subst hx
      rw [List.take_append_of_le_length (by rw [List.length_map]; omega), List.take_of_length_le (by rw [List.length_map]; omega), run_pieces h]
      exact hy
    | 1, hx =>
      injection hx with hx
      subst hx
      have e3 : (l.map pieceLine ++ [y, z]).take (l.length + 1) = l.map pieceLine ++ [y] := by
        rw [show l.map pieceLine ++ [y, z] = (l.map pieceLine ++ [y]) ++ [z] by simp]
        exact List.take_left' (by simp)
      rw [e3, runX_one, run_pieces h]
      exact hz
    | i + 2, hx => simp at hx
end Go.Proofs.YtefadlbfkhndfaaGreatDoor
