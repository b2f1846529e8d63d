/-
  Contracts: slices.Clone at rows of pieces; (*script).setCore.
-/
import Derived.Test.YtefadlbfkhndfaaDoorScr
import Derived.Test.YtefadlbfkhndfaaDoorExecute
import Derived.Test.YtefadlbfkhndfaaDoorAppend
import Derived.Lib.BufferMore
namespace Go.Proofs.YtefadlbfkhndfaaDoor
open Go.RowKit
set_option linter.unusedSimpArgs false
set_option linter.unusedVariables false

theorem infoPieceC : (Tryd.prog.info? 59).map (fun i => (i.zero, i.size, i.bytes)) = some (some (.agg #[.int .i64 0, .int .i64 0]), 2, 16) := by kernel_rfl

set_option maxRecDepth 100000 in
set_option maxHeartbeats 2000000 in
theorem cloneP_any (base : Nat) (A : Option Addr) (n c : Nat) (l : List Pc) (w : World) (h : Own PP 2 w base 59 (.slice A n c) n l) (hn : n ≤ 1000) :
    Calls Tryd.prog 36 #[.slice A n c] w fun e w' => ∃ A' c', e = .returned (.slice A' n c') ∧ Own PP 2 w' w.heap.size 59 (.slice A' n c') n l ∧ Below w.heap.size w w' := by
  obtain ⟨i0, hi, hz0, hz1, hz2⟩ := info_parts infoPieceC
  have hA := h.arr PP_length
  rcases h.2.2 with ⟨e0, hn0⟩ | ⟨g, cap, cur, hv, _⟩
  · injection e0 with e1 e2 e3
    subst e1
    subst e2
    subst e3
    have hl0 : l = [] := List.eq_nil_of_length_eq_zero h.1
    subst hl0
    clear h hA
    have eN := fun W => Go.Lib.run_eql_slice_nil_nil (P := Tryd.prog) W 0 0 Tryd.underlying30
    go_enter Tryd.func36, Tryd.ntmps36
    go_wp2
    go_ret
    exact ⟨none, 0, rfl, Own.nil_ _ _ _ _ _, Below.refl _ _⟩
  · injection hv with e1 e2 e3
    subst e1
    clear h e2 e3
    have hA' := hA.alloc (Nat.le_refl _) (.cells #[] 59)
    have hM := Own.made PP 2 w w.heap.size 59 (Nat.le_refl _)
    have eS := fun W => Go.Lib.run_eql_slice_some_nil (P := Tryd.prog) W ⟨g, 0, none⟩ n c Tryd.underlying30
    have hB := (Below.refl w.heap.size w).alloc (Nat.le_refl _) (.cells #[] 59)
    go_enter Tryd.func36, Tryd.ntmps36
    go_wp2_with (at_builtin; refine wpList_append_arr _ rfl _ _ 30 rfl w.heap.size 59 i0 (.agg #[.int .i64 0, .int .i64 0]) 2 16 Tryd.underlying30 hi hz0 hz1 hz2 rfl (by decide) PP_length one_PP' _ 0 [] rfl hM w.heap.size _ n c l rfl hA' (by unfold maxLen; omega) (by omega) (by simp) ?_)
    intro v' w2 hO hg _
    have hB2 := hB.grown hg (by simp) (fun k hk => (hM.2.lt k hk).1)
    obtain ⟨A', c', rfl, _, _⟩ := hO.form
    clear hM hB hA hA'
    go_wp2
    go_ret
    exact ⟨A', c', rfl, hO, hB2⟩

theorem Scr.frozen {w : World} {g : Nat} {s : St} (h : Scr w g s) (i : Nat) : w.frozen? ⟨g, i, none⟩ = false := by
  obtain ⟨Ac, nc, cc, Al, nl, cl, h1, h2, h3⟩ := h
  exact Lib.frozen_of_heap h1 i
theorem setCell_grown (w : World) (g i : Nat) (v : Value) : w.grownBy (w.setCell ⟨g, i, none⟩ v) (some g) :=
  ⟨rfl, rfl, rfl, by simp [World.setCell], fun k _ hk => Below.heap_setCell _ _ _ _ (fun e => hk (by simp [e]))⟩
theorem Scr.setCore {w : World} {g : Nat} {s : St} (h : Scr w g s) {A : Option Addr} {n c : Nat} {l : List Pc} (hO : Own PP 2 w (g + 1) 59 (.slice A n c) n l) : Scr (w.setCell ⟨g, 0, none⟩ (.slice A n c)) g { s with core := l } := by
  obtain ⟨Ac, nc, cc, Al, nl, cl, h1, h2, h3⟩ := h
  have hg := setCell_grown w g 0 (.slice A n c)
  exact ⟨A, n, c, Al, nl, cl, Lib.heap_setCell_same h1 _, hO.kept hg (fun k hk => by injection hk with hk; omega), h3.kept hg (fun k hk => by injection hk with hk; omega)⟩

set_option maxHeartbeats 2000000 in
theorem setCore_yes (g : Nat) (s : St) (A : Option Addr) (n c : Nat) (w : World) (h : Scr w g s) :
    Calls Tryd.prog 37 #[.pointer (some ⟨g, 0, none⟩), .slice A n c, .bool true] w fun e w' => e = .returned (.tuple #[.string ⟨#[111, 107]⟩, .bool true]) ∧ w' = w.setCell ⟨g, 0, none⟩ (.slice A n c) := by
  obtain ⟨A0, c0, A1, c1, x0, x1⟩ := h.cells
  have hf := h.frozen 0
  clear h
  go_enter Tryd.func37, Tryd.ntmps37
  go_wp2
  go_ret2
  exact ⟨rfl, rfl⟩
set_option maxHeartbeats 2000000 in
theorem setCore_no (g : Nat) (A : Option Addr) (n c : Nat) (w : World) :
    Calls Tryd.prog 37 #[.pointer (some ⟨g, 0, none⟩), .slice A n c, .bool false] w fun e w' => e = .returned (.tuple #[.string ⟨#[111, 107]⟩, .bool false]) ∧ w' = w := by
  go_enter Tryd.func37, Tryd.ntmps37
  go_wp2
  go_ret2
  exact ⟨rfl, rfl⟩
end Go.Proofs.YtefadlbfkhndfaaDoor
