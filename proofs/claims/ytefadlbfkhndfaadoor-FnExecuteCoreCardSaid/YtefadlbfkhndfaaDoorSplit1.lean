/-
  Contract: strings.Split at a separator of one byte.
-/
import Derived.Test.YtefadlbfkhndfaaDoorSplitP
import Derived.Test.YtefadlbfkhndfaaDoorShelf
import Derived.Shelf.Strings.SplitCore
import Derived.Lib.SplitLaws
namespace Go.Proofs.YtefadlbfkhndfaaDoor
open Go.RowKit
set_option linter.unusedSimpArgs false
set_option linter.unusedVariables false

theorem tx1l (l : List UInt8) : (tx l).data.toList = l := by simp [tx]
theorem tx1x (l : List UInt8) (a b : Nat) : (tx l).extract a b = tx ((l.drop a).take (b - a)) := by
  apply ByteArray.ext
  apply Array.toList_inj.1
  rw [Lib.extract_data, tx1l, tx1l]
theorem indexB_one (l : List UInt8) (c : UInt8) : Lib.indexB (tx l) ⟨#[c]⟩ = Lib.indexByte l c := by
  unfold Lib.indexB
  rw [tx1l]
  exact Lib.index_one l c
theorem splitB_tx (c : UInt8) : ∀ (m : Nat) (l : List UInt8), l.count c ≤ m → Lib.splitB ⟨#[c]⟩ 0 m (tx l) = (splitB c l).map tx := by
  intro m
  induction m with
  | zero =>
    intro l h
    have hn : c ∉ l := fun hm => by have := List.count_pos_iff.2 hm; omega
    rw [Lib.splitB_zero, splitB_one l hn]; rfl
  | succ m ih =>
    intro l h
    by_cases hm : c ∈ l
    · obtain ⟨a, b, rfl, ha⟩ := List.eq_append_cons_of_mem hm
      have hc : b.count c ≤ m := by rw [List.count_append, List.count_cons_self] at h; omega
      rw [Lib.splitB_hit _ _ _ _ a.length (by rw [indexB_one]; exact indexByte_at a b ha), splitB_cut a b ha, List.map_cons, tx1x, tx1x, tx_size]
      have e1 : ((a ++ c :: b).drop 0).take (a.length + 0 - 0) = a := by simp
      have e2 : ((a ++ c :: b).drop (a.length + (ByteArray.mk #[c]).size)).take ((a ++ c :: b).length - (a.length + (ByteArray.mk #[c]).size)) = b := by
        rw [show (ByteArray.mk #[c]).size = 1 from rfl, List.take_of_length_le (by simp; omega)]
        rw [show a ++ c :: b = (a ++ [c]) ++ b by simp, show a.length + 1 = (a ++ [c]).length by simp, List.drop_left]
      rw [e1, e2, ih b hc]
    · have hi : Lib.indexByte l c = -1 := by
        rcases split_idx c l with ⟨h1, _⟩ | ⟨k, h1, h2, h3⟩
        · exact h1
        · rw [splitB_one l hm] at h3
          injection h3 with _ h4
          exact absurd h4.symm (splitB_ne c _)
      rw [Lib.splitB_miss _ _ _ _ (by rw [indexB_one]; exact hi), splitB_one l hm]; rfl

theorem split_any (l : List UInt8) (c : UInt8) (hl : l.length ≤ 1000000) (w : World) :
    Calls Tryd.prog 25 #[.string (tx l), .string ⟨#[c]⟩] w fun e w' => e = .returned (.slice (some ⟨w.heap.size, 0, none⟩) (splitB c l).length (splitB c l).length) ∧
      w' = w.alloc (.cells ((splitB c l).map fun x => Value.string (tx x)).toArray 9) := by
  have hcn : Lib.countB (tx l) ⟨#[c]⟩ = l.count c := by
    show Lib.count (tx l).data.toList [c] = _
    rw [tx1l, Lib.count_one]
  have hle : l.count c ≤ l.length := List.count_le_length
  have hlen := Lib.splitB_all ⟨#[c]⟩ (Nat.le_refl 1) 0 (l.count c) (tx l) hcn
  have hS := splitB_tx c (l.count c) l (Nat.le_refl _)
  have hz : (tx l).size = l.length := tx_size l
  have C := Any.strings_genSplit_core Tryd.lays221 (by kernel_rfl) (tx l) ⟨#[c]⟩ 0 (-1) (l.count c + 1) w (by omega) (Nat.le_refl 1) (Nat.zero_le _)
    (fun x a _ => (Tryd.strings_Index_one x c _).mono fun e w' ⟨h1, h2⟩ => ⟨by rw [h1]; show _ = Ending.returned (.int .i64 (Lib.index x.data.toList [c])); rw [Lib.index_one], h2⟩)
    ((Tryd.strings_Count_one (tx l) c w).mono fun e w' ⟨h1, h2⟩ => ⟨by rw [h1, hcn, tx1l]; rfl, h2⟩)
    (by decide) (by decide) (by rw [if_pos (by decide), hcn]; omega)
  rw [Nat.add_sub_cancel, hlen, hS] at C
  have hl2 : (splitB c l).length = l.count c + 1 := by rw [← hlen, hS, List.length_map]
  have e2 : Lib.cellsOf ((splitB c l).map tx) (l.count c + 1) = ((splitB c l).map fun x => Value.string (tx x)).toArray := by
    rw [← hl2, ← List.length_map (f := tx), Lib.cellsOf_full, List.map_map]; rfl
  rw [e2, ← hl2] at C
  have C' := Lib.hid C
  clear C hcn hle hlen hS hl2 e2
  go_enter Tryd.func25, Tryd.ntmps25
  go_wp2_with (go_at_call 34; refine C'.out.mono ?_; rintro e w' ⟨rfl, rfl⟩)
  go_ret
  exact ⟨rfl, rfl⟩
end Go.Proofs.YtefadlbfkhndfaaDoor
