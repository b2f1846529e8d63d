/-
  Plain law: the text of layers in two parts.
-/
import Derived.Test.YtefadlbfkhndfaaGreatDoorGB
namespace Go.Proofs.YtefadlbfkhndfaaGreatDoor
open Go.RowKit
set_option linter.unusedSimpArgs false
set_option linter.unusedVariables false

theorem lyToList (l : List UInt8) : (tx l).toList = l := by unfold tx; exact ByteArray.toList_mk l
theorem layersT_parts {l : List Ly} (h : layB l = true) (k : Nat) : layersT (l.take k) ++ layersT (l.drop k) = layersT l := by
  obtain ⟨hF, h40⟩ := (layB_iff l).1 h
  have ht : layB (l.take k) = true := (layB_iff _).2 ⟨layFrom_take k hF, by rw [List.length_take]; omega⟩
  have hd : layB (l.drop k) = true := (layB_iff _).2 ⟨layFrom_drop k hF, by rw [List.length_drop]; omega⟩
  unfold layersT
  rw [if_pos h, if_pos ht, if_pos hd]
  unfold laysT
  rw [← List.flatMap_append, List.take_append_drop]
theorem layersT_len (l : List Ly) : (layersT l).length ≤ 320 := by
  unfold layersT
  split
  · rename_i h
    obtain ⟨hF, h40⟩ := (layB_iff l).1 h
    have := laysT_len hF (by omega) l.length (Nat.le_refl _)
    rw [List.take_of_length_le (Nat.le_refl _)] at this
    omega
  · decide
end Go.Proofs.YtefadlbfkhndfaaGreatDoor
