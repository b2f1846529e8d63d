/-
  Plain laws on scripts: lines that are added, the last line of an answer, scripts that build a core or layers.
-/
import Derived.Test.YtefadlbfkhndfaaDoorPlainX
namespace Go.Proofs.YtefadlbfkhndfaaDoor
open Go.RowKit
set_option linter.unusedSimpArgs false
set_option linter.unusedVariables false

/-! ### Complete lines -/
/-- Nothing, or a newline at the end. -/
def Closed (t : List UInt8) : Prop := t = [] ∨ ∃ x, t = x ++ [10]
theorem splitB_mid {c : UInt8} : ∀ (x y : List UInt8), splitB c (x ++ c :: y) = splitB c x ++ splitB c y := by
  intro x
  induction x with
  | nil =>
    intro y
    show (if c = c then [] :: splitB c y else preS [c] (splitB c y)) = _
    rw [if_pos rfl]; rfl
  | cons b x ih =>
    intro y
    rw [List.cons_append, splitB, splitB, ih]
    split
    · rfl
    · rw [preS_append _ (splitB_ne c x)]
theorem linesX_nil : linesX [] = [] := rfl
theorem linesX_end (x : List UInt8) : linesX (x ++ [10]) = splitB 10 x := by unfold linesX; rw [splitB_end, List.dropLast_concat]
theorem linesX_rest {r y : List UInt8} (hr : Closed r) (hy : (10 : UInt8) ∉ y) : linesX (r ++ y) = linesX r := by
  rcases hr with rfl | ⟨x, rfl⟩
  · rw [List.nil_append]; unfold linesX; rw [splitB_one y hy]; rfl
  · rw [linesX_end, List.append_assoc]
    unfold linesX
    rw [show [10] ++ y = 10 :: y from rfl, splitB_mid, splitB_one y hy, List.dropLast_concat]
theorem linesX_add {r w : List UInt8} (hr : Closed r) (hw : (10 : UInt8) ∉ w) : linesX (r ++ (w ++ [10])) = linesX r ++ [w] := by
  rcases hr with rfl | ⟨x, rfl⟩
  · rw [List.nil_append, linesX_end, splitB_one w hw]; rfl
  · rw [linesX_end, List.append_assoc]
    unfold linesX
    rw [show [10] ++ (w ++ [10]) = 10 :: (w ++ [10]) from rfl, splitB_mid, splitB_end, splitB_one w hw, ← List.append_assoc, List.dropLast_concat]
theorem Closed.add {r w : List UInt8} : Closed (r ++ (w ++ [10])) := .inr ⟨r ++ w, by simp⟩
theorem linesX_flat2 : ∀ (L : List (List UInt8)) (r : List UInt8), Closed r → (∀ w ∈ L, (10 : UInt8) ∉ w) → linesX (r ++ L.flatMap fun w => w ++ [10]) = linesX r ++ L ∧ Closed (r ++ L.flatMap fun w => w ++ [10]) := by
  intro L
  induction L with
  | nil => intro r hr _; simp only [List.flatMap_nil, List.append_nil]; exact ⟨trivial, hr⟩
  | cons w L ih =>
    intro r hr h
    obtain ⟨h1, h2⟩ := ih (r ++ (w ++ [10])) Closed.add (fun x hx => h x (List.mem_cons_of_mem _ hx))
    rw [linesX_add hr (h w List.mem_cons_self)] at h1
    rw [List.flatMap_cons, ← List.append_assoc]
    exact ⟨by rw [h1]; simp, h2⟩
theorem linesX_flat (L : List (List UInt8)) (h : ∀ w ∈ L, (10 : UInt8) ∉ w) : linesX (L.flatMap fun w => w ++ [10]) = L ∧ Closed (L.flatMap fun w => w ++ [10]) := by
  have := linesX_flat2 L [] (.inl rfl) h
  rw [List.nil_append, linesX_nil, List.nil_append] at this
  exact this

/-! ### The answer -/
theorem runX_closed : ∀ (ls : List (List UInt8)) (s : St), Closed (runX s ls).2 := by
  intro ls
  induction ls with
  | nil => intro s; exact .inl rfl
  | cons l t ih =>
    intro s
    right
    rw [runX]
    rcases ih (lineX s (splitB 32 l)).1 with h | ⟨x, h⟩
    · exact ⟨(lineX s (splitB 32 l)).2, by simp [h]⟩
    · exact ⟨(lineX s (splitB 32 l)).2 ++ 10 :: x, by simp [h]⟩
theorem runX_one (s : St) (ls : List (List UInt8)) (w : List UInt8) : runX s (ls ++ [w]) = ((lineX (runX s ls).1 (splitB 32 w)).1, (runX s ls).2 ++ ((lineX (runX s ls).1 (splitB 32 w)).2 ++ [10])) := by
  rw [runX_append]; rfl
theorem dec_no10 (n : Nat) : (10 : UInt8) ∉ dec n := not_dec (by decide) n
theorem endT_form (s : St) : ∃ e, endT s = e ++ [10] ∧ (10 : UInt8) ∉ e := by
  refine ⟨[112, 105, 101, 99, 101, 115, 32] ++ dec s.core.length ++ [32, 108, 97, 121, 101, 114, 115, 32] ++ dec s.lays.length, rfl, ?_⟩
  simp only [List.mem_append, not_or]
  exact ⟨⟨⟨by decide, dec_no10 _⟩, by decide⟩, dec_no10 _⟩
theorem execT_short {t : List UInt8} (h : t.length ≤ 500) : execT t = (runX st0 (linesX t)).2 ++ endT (runX st0 (linesX t)).1 := by
  unfold execT; rw [if_neg (by omega)]
theorem execT_add {r w : List UInt8} (hr : Closed r) (hw : (10 : UInt8) ∉ w) (hl : r.length + w.length + 1 ≤ 500) :
    execT (r ++ (w ++ [10])) = (runX st0 (linesX r)).2 ++ ((lineX (runX st0 (linesX r)).1 (splitB 32 w)).2 ++ [10]) ++ endT (lineX (runX st0 (linesX r)).1 (splitB 32 w)).1 := by
  rw [execT_short (by simp; omega), linesX_add hr hw, runX_one]

/-! ### What the laws ask of the text that ends with a newline and of the last line -/
/-- r is what is left of t when what is behind the last newline is cut off. -/
def IsComplete (t r : List UInt8) : Prop := Closed r ∧ ∃ y, t = r ++ y ∧ (10 : UInt8) ∉ y
theorem IsComplete.lines {t r : List UInt8} (h : IsComplete t r) : linesX r = linesX t := by
  obtain ⟨h1, y, rfl, hy⟩ := h
  exact (linesX_rest h1 hy).symm
theorem IsComplete.len {t r : List UInt8} (h : IsComplete t r) : r.length ≤ t.length := by
  obtain ⟨_, y, rfl, _⟩ := h
  simp
theorem IsComplete.same {t r : List UInt8} (h : IsComplete t r) (hl : t.length ≤ 500) : execT r = execT t := by
  rw [execT_short hl, execT_short (by have := h.len; omega), h.lines]
/-- e is the last line of a. -/
def IsLast (a e : List UInt8) : Prop := ∃ x, a = x ++ e ∧ Closed x ∧ ∃ y, e = y ++ [10] ∧ (10 : UInt8) ∉ y
theorem last_exec {r : List UInt8} (hl : r.length ≤ 500) : IsLast (execT r) (endT (runX st0 (linesX r)).1) := by
  obtain ⟨y, hy, hn⟩ := endT_form (runX st0 (linesX r)).1
  exact ⟨_, execT_short hl, runX_closed _ _, y, hy, hn⟩
end Go.Proofs.YtefadlbfkhndfaaDoor
