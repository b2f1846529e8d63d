/-
  Contracts: strings.Cut at a separator of one byte, strings.TrimSuffix, strings.CutSuffix, strconv.Atoi at every text.
-/
import Derived.Test.YtefadlbfkhndfaaDoorSplitP
import Derived.Test.YtefadlbfkhndfaaDoorShelf
import Derived.Test.YtefadlbfkhndfaaDoorBuilder
import Derived.Test.YtefadlbfkhndfaaDoorRows
import Derived.Shelf.Strconv.AtoiAll
import Derived.BigQuiet
namespace Go.Proofs.YtefadlbfkhndfaaDoor
open Go.RowKit Go.Shelf
set_option linter.unusedSimpArgs false
set_option linter.unusedVariables false

theorem txd (l : List UInt8) : (tx l).data.toList = l := by simp [tx]
theorem txe (l : List UInt8) (a b : Nat) : (tx l).extract a b = tx ((l.drop a).take (b - a)) := by
  apply ByteArray.ext
  apply Array.toList_inj.1
  rw [Lib.extract_data, txd, txd]
/-- What is ahead of the first byte c, and what is behind it. -/
def cutB (c : UInt8) (l : List UInt8) : List UInt8 × List UInt8 := if Lib.indexByte l c = -1 then (l, []) else (l.take (Lib.indexByte l c).toNat, l.drop ((Lib.indexByte l c).toNat + 1))
theorem cutB_no {c : UInt8} {l : List UInt8} (h : Lib.indexByte l c = -1) : cutB c l = (l, []) := by unfold cutB; rw [if_pos h]
theorem cutB_yes {c : UInt8} {l : List UInt8} {k : Nat} (h : Lib.indexByte l c = k) : cutB c l = (l.take k, l.drop (k + 1)) := by
  unfold cutB
  rw [if_neg (by rw [h]; omega), h]
  simp
theorem cutB_at {c : UInt8} (a b : List UInt8) (h : c ∉ a) : cutB c (a ++ c :: b) = (a, b) := by
  rw [cutB_yes (indexByte_at a b h)]
  simp

/-- A text without the byte c at its end, and whether it was there. -/
def cutE (c : UInt8) (l : List UInt8) : List UInt8 × Bool := if l.getLast? = some c then (l.dropLast, true) else (l, false)
theorem suf_last (c : UInt8) (l : List UInt8) : Lib.hasSuffix l [c] = decide (l.getLast? = some c) := by
  unfold Lib.hasSuffix
  rw [Bool.eq_iff_iff, List.isSuffixOf_iff_suffix, decide_eq_true_eq]
  constructor
  · rintro ⟨x, rfl⟩; simp
  · intro h
    obtain ⟨ys, rfl⟩ := List.getLast?_eq_some_iff.1 h
    exact ⟨ys, rfl⟩
theorem cutE_eq (c : UInt8) (l : List UInt8) : cutE c l = (Lib.trimSuffix l [c], Lib.hasSuffix l [c]) := by
  unfold cutE Lib.trimSuffix
  rw [suf_last]
  by_cases h : l.getLast? = some c
  · rw [if_pos h, decide_eq_true h, if_pos rfl, List.dropLast_eq_take]; rfl
  · rw [if_neg h, decide_eq_false h, if_neg (by simp)]
theorem cutsuf_any (l : List UInt8) (hl : l.length ≤ 1000000000) (w : World) :
    Calls Tryd.prog 54 #[.string (tx l), .string ⟨#[63]⟩] w fun e w' => e = .returned (.tuple #[.string (tx (cutE 63 l).1), .bool (cutE 63 l).2]) ∧ w' = w := by
  have := Tryd.strings_CutSuffix (tx l) ⟨#[63]⟩ w (by rw [tx_size]; omega)
  rw [txd] at this
  rw [cutE_eq]
  exact this

/-! ### strconv.Atoi -/
/-- The two error variables that Atoi reads hold what they were laid with. -/
def ErrsAt (w : World) : Prop := (∃ te pe, w.cell? ⟨4, 0, none⟩ = some (.iface te pe)) ∧ (∃ te pe, w.cell? ⟨5, 0, none⟩ = some (.iface te pe))
def Errs (w : World) : Prop := ErrsAt w ∧ 4 < w.heap.size ∧ 5 < w.heap.size
theorem Errs.below {w w' : World} {C : Nat} (h : Errs w) (hb : Below C w w') (hC : w.heap.size ≤ C) : Errs w' := by
  obtain ⟨⟨⟨t1, p1, h1⟩, t2, p2, h2⟩, h3, h4⟩ := h
  have hs := hb.size
  exact ⟨⟨⟨t1, p1, (hb.cell (by simp; omega)).trans h1⟩, t2, p2, (hb.cell (by simp; omega)).trans h2⟩, by omega, by omega⟩
theorem atoi_some (l : List UInt8) (v : Int) (hl : l.length ≤ 1000000000) (h : Lib.atoiAll l = .ok v) (w : World) :
    Calls Tryd.prog 51 #[.string (tx l)] w fun e w' => e = .returned (.tuple #[.int .i64 v, .nilIface]) ∧ Below w.heap.size w w' := by
  refine (Tryd.strconv_Atoi_ok (tx l) (by rw [tx_size]; omega) v (by rw [txd]; exact h) w).mono ?_
  rintro e w' ⟨rfl, rfl | ⟨t, rfl⟩⟩
  · exact ⟨rfl, Below.refl _ _⟩
  · exact ⟨rfl, Lib.bytesWorld_below _ _ _⟩
theorem atoi_none (l : List UInt8) (hl : l.length ≤ 1000000000) (h : ∀ v, Lib.atoiAll l ≠ .ok v) (w : World) (hE : Errs w) :
    Calls Tryd.prog 51 #[.string (tx l)] w fun e w' => (∃ x N, e = .returned (.tuple #[.int .i64 x, .iface 115 (.pointer (some ⟨N, 0, none⟩))])) ∧ Below w.heap.size w w' := by
  obtain ⟨⟨⟨t1, p1, h1⟩, t2, p2, h2⟩, _, _⟩ := hE
  have e := txd l
  cases ha : Lib.atoiAll l with
  | ok v => exact absurd ha (h v)
  | range =>
    refine (Tryd.strconv_Atoi_range (tx l) (by rw [tx_size]; omega) (by rw [e]; exact ha) _ w h2 (.inr ⟨_, _, rfl⟩)).mono ?_
    rintro e w' ⟨N, rfl, _, _, hb⟩
    exact ⟨⟨_, _, rfl⟩, hb⟩
  | _ =>
    rw [← e] at ha
    refine (Any.strconv_Atoi_syntax Tryd.laysC172 (tx l) (by rw [tx_size]; omega) ha _ w h1 (.inr ⟨_, _, rfl⟩)).mono ?_
    rintro e w' ⟨N, rfl, _, _, hb⟩
    exact ⟨⟨_, _, rfl⟩, hb⟩
end Go.Proofs.YtefadlbfkhndfaaDoor
