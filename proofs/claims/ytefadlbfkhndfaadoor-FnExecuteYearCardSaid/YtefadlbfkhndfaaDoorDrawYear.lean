/-
  The reference's draws of a year and of an age.
-/
import Derived.Test.YtefadlbfkhndfaaDoorDraw
import Derived.Lib.Builder
import Derived.MapKept
namespace Go.Proofs.YtefadlbfkhndfaaDoor
open Go.RowKit
set_option linter.unusedSimpArgs false
set_option linter.unusedVariables false

theorem new_four (w : World) (a b c d : Int) : (w.alloc (.cells #[.int .i64 a, .int .i64 b, .int .i64 c, .int .i64 d] 3)).cell? ⟨w.heap.size, 0, none⟩ = some (.int .i64 a) ∧
    (w.alloc (.cells #[.int .i64 a, .int .i64 b, .int .i64 c, .int .i64 d] 3)).cell? ⟨w.heap.size, 1, none⟩ = some (.int .i64 b) ∧ (w.alloc (.cells #[.int .i64 a, .int .i64 b, .int .i64 c, .int .i64 d] 3)).cell? ⟨w.heap.size, 2, none⟩ = some (.int .i64 c) ∧
    (w.alloc (.cells #[.int .i64 a, .int .i64 b, .int .i64 c, .int .i64 d] 3)).cell? ⟨w.heap.size, 3, none⟩ = some (.int .i64 d) := by
  have h := (MapKept.heap_alloc w (.cells #[.int .i64 a, .int .i64 b, .int .i64 c, .int .i64 d] 3)).1
  exact ⟨(Lib.cell_of_heap h 0).trans rfl, (Lib.cell_of_heap h 1).trans rfl, (Lib.cell_of_heap h 2).trans rfl, (Lib.cell_of_heap h 3).trans rfl⟩

set_option maxRecDepth 100000 in
set_option maxHeartbeats 4000000 in
theorem l91Year_any (g p : Nat) (w : World) (h : Rd w g 62 p) (hp : p ≤ 1000000) :
    Calls Tryd.prog 20 #[.pointer (some ⟨g, 0, none⟩)] w fun e w' => ∃ y : Int, e = .returned (.int .i64 y) ∧ -200001 ≤ y ∧ y ≤ 200001 ∧ w.grownBy w' (some g) := by
  go_enter Tryd.func20, Tryd.ntmps20
  go_wp2_with fail
  refine (pick_any g p 16 _ h (by omega) (by omega)).mono ?_
  rintro e w1 ⟨x, rfl, hx, hr1, hg1⟩
  have hx' : x < 16 := by omega
  clear hx
  rcases (show x = 0 ∨ (x = 1 ∨ x = 2 ∨ x = 3) ∨ 4 ≤ x by omega) with rfl | h3 | h4
  · go_wp2_with fail
    have LA := new_four w1 200000 (-200000) 200001 (-200001)
    refine (pick_any g (p + 1) 4 _ (hr1.alloc _) (by omega) (by omega)).mono ?_
    rintro e w2 ⟨y, rfl, hy, hr2, hg2⟩
    have hy4 : y < 4 := by omega
    have hKg : some w1.heap.size ≠ some g := fun e => by injection e with e; have := hr1.lt; omega
    have q0 := hg2.cell LA.1 hKg
    have q1 := hg2.cell LA.2.1 hKg
    have q2 := hg2.cell LA.2.2.1 hKg
    have q3 := hg2.cell LA.2.2.2 hKg
    have G := grown_trans' (grown_alloc hg1 _) hg2
    clear hr1 hg1 hr2 hg2 LA hy
    rcases (show y = 0 ∨ y = 1 ∨ y = 2 ∨ y = 3 by omega) with rfl | rfl | rfl | rfl
    all_goals
      go_wp2_with fail
      go_ret
      exact ⟨_, rfl, by omega, by omega, G⟩
  · rcases h3 with rfl | rfl | rfl
    all_goals
      go_wp2_with fail
      refine (pick_any g (p + 1) 5 _ hr1 (by omega) (by omega)).mono ?_
      rintro e w2 ⟨y, rfl, hy, hr2, hg2⟩
      have hy5 : y < 5 := by omega
      have e1 : wrap64 ((y : Int) - 2) = (y : Int) - 2 := w64' ⟨by omega, by omega⟩
      go_wp2_with fail
      go_ret
      exact ⟨_, rfl, by omega, by omega, grown_trans' hg1 hg2⟩
  · have f0 : ((x : Int) == 0) = false := by simp; omega
    have f1 : ((x : Int) == 1) = false := by simp; omega
    have f2 : ((x : Int) == 2) = false := by simp; omega
    have f3 : ((x : Int) == 3) = false := by simp; omega
    go_wp2_with fail
    refine (pick_any g (p + 1) 200 _ hr1 (by omega) (by omega)).mono ?_
    rintro e w2 ⟨a, rfl, ha, hr2, hg2⟩
    have ha2 : a < 200 := by omega
    go_wp2_with fail
    refine (pick_any g (p + 1 + 1) 40 _ hr2 (by omega) (by omega)).mono ?_
    rintro e w3 ⟨b, rfl, hb, hr3, hg3⟩
    have hb2 : b < 40 := by omega
    have G := grown_trans' (grown_trans' hg1 hg2) hg3
    have e1 : wrap64 ((a : Int) * 40) = (a : Int) * 40 := w64' ⟨by omega, by omega⟩
    have e2 : wrap64 ((a : Int) * 40 - 4000) = (a : Int) * 40 - 4000 := w64' ⟨by omega, by omega⟩
    have e3 : wrap64 ((a : Int) * 40 - 4000 + (b : Int)) = (a : Int) * 40 - 4000 + (b : Int) := w64' ⟨by omega, by omega⟩
    clear hr1 hg1 hr2 hg2 hr3 hg3
    go_wp2_with fail
    go_ret
    exact ⟨_, rfl, by omega, by omega, G⟩

set_option maxRecDepth 100000 in
set_option maxHeartbeats 4000000 in
theorem DrawYearOf_any (A : Option Addr) (n c : Nat) (l : List Int) (w : World) (h : Arr BB 1 w w.heap.size A n l) (hby : ∀ x ∈ l, 0 ≤ x ∧ x ≤ 255) (hc : n ≤ c) :
    Calls Tryd.prog 5 #[.slice A n c] w fun e w' => ∃ y : Int, e = .returned (.int .i64 y) ∧ -500000 ≤ y ∧ y ≤ 500000 ∧ Below w.heap.size w w' := by
  have C := Lib.hid (l6Open_any A n c l w h hby hc)
  clear hby h
  go_enter Tryd.func5, Tryd.ntmps5
  go_wp2_with fail
  refine C.out.mono ?_
  rintro e w1 ⟨rfl, hr, hb, hs⟩
  clear C
  have hN : w.heap.size ≤ w.heap.size := Nat.le_refl _
  generalize hg0 : w.heap.size = g at hr hb hs hN ⊢
  go_wp2_with fail
  refine (pick_any g 0 12 w1 hr (by omega) (by omega)).mono ?_
  rintro e w2 ⟨x, rfl, hx, hr2, hg2⟩
  by_cases h0 : x = 0
  · subst h0
    go_wp2_with fail
    have LA := new_four w2 (-400001) 400001 202000 202001
    refine (pick_any g (0 + 1) 4 _ (hr2.alloc _) (by omega) (by omega)).mono ?_
    rintro e w3 ⟨y, rfl, hy, hr3, hg3⟩
    have hy4 : y < 4 := by omega
    have hKg : some w2.heap.size ≠ some g := fun e => by injection e with e; have := hr2.lt; omega
    have q0 := hg3.cell LA.1 hKg
    have q1 := hg3.cell LA.2.1 hKg
    have q2 := hg3.cell LA.2.2.1 hKg
    have q3 := hg3.cell LA.2.2.2 hKg
    have G := hb.grown (grown_trans' (grown_alloc hg2 _) hg3) (by omega) (fun k hk => by injection hk with hk; omega)
    clear hr2 hg2 hr3 hg3 LA hy
    rcases (show y = 0 ∨ y = 1 ∨ y = 2 ∨ y = 3 by omega) with rfl | rfl | rfl | rfl
    all_goals
      go_wp2_with fail
      go_ret
      exact ⟨_, rfl, by omega, by omega, G.mono (Nat.le_of_eq hg0)⟩
  · have f0 : ((x : Int) == 0) = false := by simp; omega
    go_wp2_with fail
    refine (l91Year_any g (0 + 1) w2 hr2 (by omega)).mono ?_
    rintro e w3 ⟨y, rfl, hy1, hy2, hg3⟩
    have G := hb.grown (grown_trans' hg2 hg3) (by omega) (fun k hk => by injection hk with hk; omega)
    have e1 : wrap64 (2000 - y) = 2000 - y := w64' ⟨by omega, by omega⟩
    clear hg2 hg3 hr2
    go_wp2_with fail
    go_ret
    exact ⟨_, rfl, by omega, by omega, G.mono (Nat.le_of_eq hg0)⟩
end Go.Proofs.YtefadlbfkhndfaaDoor
