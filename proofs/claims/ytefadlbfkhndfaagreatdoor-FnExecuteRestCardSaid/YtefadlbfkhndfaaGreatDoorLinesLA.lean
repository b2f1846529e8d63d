/-
  The lines "layer W" are lines that execute is known at.
-/
import Derived.Test.YtefadlbfkhndfaaGreatDoorGI
import Derived.Test.YtefadlbfkhndfaaGreatDoorGD
namespace Go.Proofs.YtefadlbfkhndfaaGreatDoor
open Go.RowKit
set_option linter.unusedSimpArgs false
set_option linter.unusedVariables false

theorem lineOk_layerA {s : St} {a : List UInt8} (ha : a.length ≤ 1000000) (hl : s.lays.length ≤ 900) : LineOk s [wLayer, a] := by
  unfold LineOk
  rw [line_layer]
  unfold addLayer layerOf
  cases hC : layB (s.lays ++ [lyOf a]) with
  | true =>
    rw [if_pos rfl]
    refine ⟨by show okT.length ≤ 1000; decide, fun w g k hs hT hE hgk hk => ?_⟩
    refine (exec_layerA_yes g k a ha s w hs hl hT hE (Array.getElem?_eq_some_iff.1 hk).1 ((Lib.cell_of_heap hk 0).trans rfl) ((Lib.cell_of_heap hk 1).trans rfl) hC).mono ?_
    rintro e w' ⟨rfl, h1, h2⟩
    exact ⟨_, _, rfl, rfl, h1, h2⟩
  | false =>
    rw [if_neg (by decide)]
    refine ⟨by show noT.length ≤ 1000; decide, fun w g k hs hT hE hgk hk => ?_⟩
    refine (exec_layerA_no g k a ha s w hs hl hT hE (Array.getElem?_eq_some_iff.1 hk).1 ((Lib.cell_of_heap hk 0).trans rfl) ((Lib.cell_of_heap hk 1).trans rfl) hC).mono ?_
    rintro e w' ⟨rfl, h1, h2⟩
    exact ⟨[], false, rfl, rfl, h1, h2⟩
theorem layerLine_bd {l : List Ly} {p : Ly} (h : layB l = true) (hp : p ∈ l) : (lineL p).length ≤ 1000000 := by
  have := layFrom_mem ((layB_iff l).1 h).1 _ hp
  have h1 : (Lib.decDigits p.1.toNat).length ≤ 5 := dec_len 4 _ (by omega)
  unfold lineL
  split <;> simp <;> omega
/-- The lines that build layers are lines that execute is known at. -/
theorem lines_layers {l : List Ly} (h : layB l = true) (R : List (List UInt8)) : ∀ j x, j < l.length → (l.map layerLine ++ R)[j]? = some x → LineOk (runX st0 ((l.map layerLine ++ R).take j)).1 (splitB 32 x) := by
  intro j x hj hx
  have h40 := ((layB_iff l).1 h).2
  have hl : l[j]? = some l[j] := List.getElem?_eq_getElem hj
  rw [List.getElem?_append_left (by rw [List.length_map]; exact hj), List.getElem?_map, hl] at hx
  injection hx with hx
  subst hx
  rw [List.take_append_of_le_length (by rw [List.length_map]; omega), ← List.map_take, show st0 = (⟨[], []⟩ : St) from rfl, run_layers [] (layB_take h j), layerLine_words]
  exact lineOk_layerA (layerLine_bd h (List.getElem_mem hj)) (by show (l.take j).length ≤ 900; rw [List.length_take]; omega)
theorem lines_layers1 {l : List Ly} {y : List UInt8} (h : layB l = true) (hy : LineOk ⟨[], l⟩ (splitB 32 y)) : ∀ j x, (l.map layerLine ++ [y])[j]? = some x → LineOk (runX st0 ((l.map layerLine ++ [y]).take j)).1 (splitB 32 x) := by
  intro j x hx
  by_cases hj : j < l.length
  · exact lines_layers h _ j x hj hx
  · obtain ⟨i, rfl⟩ : ∃ i, j = l.length + i := ⟨j - l.length, by omega⟩
    rw [List.getElem?_append_right (by rw [List.length_map]; omega), List.length_map, Nat.add_sub_cancel_left] at hx
    match i, hx with
    | 0, hx =>
      injection hx with hx
      subst hx
      rw [List.take_append_of_le_length (by rw [List.length_map]; omega), List.take_of_length_le (by rw [List.length_map]; omega), show st0 = (⟨[], []⟩ : St) from rfl, run_layers [] h]
      exact hy
    | i + 1, hx => simp at hx
theorem execute_lines (L : List (List UInt8)) (hno : ∀ w ∈ L, (10 : UInt8) ∉ w) (hl : (linesT L).length ≤ 500) (H : ∀ j x, L[j]? = some x → LineOk (runX st0 (L.take j)).1 (splitB 32 x)) (w : World) (hT : Tab w) (hE : Errs w) :
    Calls Tryz.prog 15 #[.string (tx (linesT L))] w fun e w' => e = .returned (.string (tx (execT (linesT L)))) ∧ Below w.heap.size w w' := by
  refine implExecute_any (linesT L) hl w hT hE ?_ (run_small _)
  rw [linesX_linesT _ hno]
  exact H
end Go.Proofs.YtefadlbfkhndfaaGreatDoor
