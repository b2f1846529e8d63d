/-
  Plain laws of the scripts that the last five laws add lines to: the answer is what the lines said, what the new line says, and the same last line.
-/
import Derived.Test.YtefadlbfkhndfaaGreatDoorGD
import Derived.Test.YtefadlbfkhndfaaGreatDoorLinesAll
namespace Go.Proofs.YtefadlbfkhndfaaGreatDoor
open Go.RowKit
set_option linter.unusedSimpArgs false
set_option linter.unusedVariables false

theorem out_len : ∀ (ls : List (List UInt8)) (s : St), s.ok → (∀ x ∈ ls, x.length ≤ 1000) → (runX s ls).2.length ≤ 1001 * ls.length := by
  intro ls
  induction ls with
  | nil => intro s _ _; exact Nat.zero_le _
  | cons x ls ih =>
    intro s hs hx
    have hx0 := hx x List.mem_cons_self
    obtain ⟨h1, h2⟩ := splitB_bd 32 x
    have ha := (lineOk_all hs _ (splitB_ne 32 x) (fun y hy => by have := h2 y hy; omega) (by omega)).1
    have hb := ih (lineX s (splitB 32 x)).1 (lineX_ok hs _) (fun y hy => hx y (List.mem_cons_of_mem _ hy))
    rw [runX]
    simp only [List.length_append, List.length_cons]
    omega
/-- What a script's lines said, and its last line. -/
structure Said (r o e : List UInt8) (s : St) : Prop where
  ok : s.ok
  ans : execT r = o ++ e
  last : IsLast (execT r) e
  ol : o.length ≤ 600000
  el : e.length ≤ 40
  add : ∀ (w m : List UInt8), (10 : UInt8) ∉ w → r.length + w.length + 1 ≤ 500 → lineX s (splitB 32 w) = (s, m) → execT (r ++ (w ++ [10])) = o ++ (m ++ [10]) ++ e
  add2 : ∀ (w m : List UInt8), (10 : UInt8) ∉ w → r.length + 2 * (w.length + 1) ≤ 500 → lineX s (splitB 32 w) = (s, m) → execT (r ++ (w ++ 10 :: (w ++ [10]))) = o ++ (m ++ [10]) ++ (m ++ [10]) ++ e
theorem said {r : List UInt8} (hr : Closed r) (hl : r.length ≤ 500) : ∃ o e s, Said r o e s := by
  have hok : (runX st0 (linesX r)).1.ok := runX_ok st0_ok
  obtain ⟨b1, b2⟩ := splitB_bd 10 r
  have hle := out_len (linesX r) st0 st0_ok (fun x hx => by have := b2 x (List.dropLast_subset _ hx); omega)
  have hn : (linesX r).length ≤ 501 := by unfold linesX; rw [List.length_dropLast]; omega
  have hsm := run_small (linesX r)
  refine ⟨_, _, _, hok, execT_short hl, last_exec hl, by omega, endT_len _ hsm.1 hsm.2, fun w m hw hrw hm => ?_, fun w m hw hrw hm => ?_⟩
  · rw [execT_add hr hw hrw, hm]
  · have e1 : r ++ (w ++ 10 :: (w ++ [10])) = (r ++ (w ++ [10])) ++ (w ++ [10]) := by simp
    have hl1 : linesX (r ++ (w ++ [10])) = linesX r ++ [w] := linesX_add hr hw
    have hr1 : runX st0 (linesX r ++ [w]) = ((runX st0 (linesX r)).1, (runX st0 (linesX r)).2 ++ (m ++ [10])) := by rw [runX_one, hm]
    rw [e1, execT_add Closed.add hw (by simp; omega), hl1, hr1, hm]
theorem line_what3 (s : St) : lineX s (splitB 32 [122, 122, 122]) = (s, whatT) := by
  rw [show splitB 32 [122, 122, 122] = [[122, 122, 122]] by decide, line1, if_neg (by decide), if_neg (by decide), if_neg (by decide)]
theorem line_core1 (s : St) : lineX s (splitB 32 wCore) = (s, coreT s.core) := by
  rw [show splitB 32 wCore = [wCore] by decide, line_core]
theorem line_no55 (s : St) : lineX s (splitB 32 [112, 105, 101, 99, 101, 32, 53, 32, 53]) = (s, noT) := by
  rw [show splitB 32 [112, 105, 101, 99, 101, 32, 53, 32, 53] = [wPiece, [53], [53]] by decide, line_piece]
  unfold addPiece
  rw [if_neg]
  intro h
  have hF := ((coreB_iff _).1 h).1
  rw [coreFrom_append, coreFrom_cons] at hF
  have := hF.2.1
  have h5 : dig [53] = 5 := by decide
  simp only [h5] at this
  omega
theorem exec_nil : execT [] = [112, 105, 101, 99, 101, 115, 32, 48, 32, 108, 97, 121, 101, 114, 115, 32, 48, 10] := by
  have h : dec 0 = [48] := by unfold dec; rw [Lib.decDigits]; rfl
  show [112, 105, 101, 99, 101, 115, 32] ++ dec 0 ++ [32, 108, 97, 121, 101, 114, 115, 32] ++ dec 0 ++ [10] = _
  rw [h]; rfl
theorem endT_ne (s : St) : endT s ≠ [] := by
  unfold endT; simp
theorem exec_ne (t : List UInt8) : execT t ≠ [] := by
  unfold execT
  split
  · decide
  · intro h; exact endT_ne _ (List.append_eq_nil_iff.1 h).2
end Go.Proofs.YtefadlbfkhndfaaGreatDoor
