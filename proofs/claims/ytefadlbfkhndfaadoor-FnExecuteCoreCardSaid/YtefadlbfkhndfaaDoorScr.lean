/-
  The state of the program's script in memory.
-/
import Derived.Test.YtefadlbfkhndfaaDoorPlainX
import Derived.Test.YtefadlbfkhndfaaDoorBuilderK
namespace Go.Proofs.YtefadlbfkhndfaaDoor
open Go.RowKit
set_option linter.unusedSimpArgs false
set_option linter.unusedVariables false

def Scr (w : World) (g : Nat) (s : St) : Prop := ∃ Ac nc cc Al nl cl, w.heap[g]? = some (.cells #[.slice Ac nc cc, .slice Al nl cl] 43 (0, 0)) ∧
  Own PP 2 w (g + 1) 59 (.slice Ac nc cc) nc s.core ∧ Own LL 2 w (g + 1) 87 (.slice Al nl cl) nl s.lays
theorem Scr.lt {w : World} {g : Nat} {s : St} (h : Scr w g s) : g < w.heap.size := by
  obtain ⟨_, _, _, _, _, _, h, _⟩ := h
  exact (Array.getElem?_eq_some_iff.1 h).1
theorem Scr.below {w w' : World} {g C : Nat} {s : St} (h : Scr w g s) (hb : Below C w w') (hC : w.heap.size ≤ C) : Scr w' g s := by
  have hl := h.lt
  obtain ⟨Ac, nc, cc, Al, nl, cl, h1, h2, h3⟩ := h
  exact ⟨Ac, nc, cc, Al, nl, cl, (hb.block g (by omega)).trans h1, h2.below hb hC, h3.below hb hC⟩
/-- What turns rows of bytes and the builder's block alone leaves a row as it was. -/
theorem Own.keeps {α : Type} {f : α → List Value} {sz : Nat} {w w' : World} {base b : Nat} {T : TypeId} {v : Value} {n : Nat} {l : List α} (h : Own f sz w base T v n l) (hk : Keeps b w w') (hT : T ≠ 5) (hb : v.ownBlock ≠ some b) : Own f sz w' base T v n l := by
  refine ⟨h.1, h.2.1, ?_⟩
  rcases h.2.2 with h0 | ⟨g, cap, cur, hv, hbg, hg, r⟩
  · exact .inl h0
  · refine .inr ⟨g, cap, cur, hv, hbg, (hk g cur T _ (fun e => hb (by rw [hv]; simp [Value.ownBlock, e])) hg hT).trans hg, r⟩
theorem Own.not_block {α : Type} {f : α → List Value} {sz : Nat} {w : World} {base b : Nat} {T T' : TypeId} {cs : Array Value} {fr : Nat × Nat} {v : Value} {n : Nat} {l : List α} (h : Own f sz w base T v n l) (hb : w.heap[b]? = some (.cells cs T' fr)) (hT : T ≠ T') : v.ownBlock ≠ some b := by
  rcases h.2.2 with ⟨rfl, _⟩ | ⟨g, cap, cur, rfl, _, hg, _⟩
  · simp [Value.ownBlock]
  · intro e
    obtain rfl : g = b := by simpa [Value.ownBlock] using e
    rw [hg] at hb
    injection hb with hb
    injection hb with _ h2 _
    exact hT h2
end Go.Proofs.YtefadlbfkhndfaaDoor
