/-
  Drawn cores and kerfs.
-/
import Derived.Test.YtefadlbfkhndfaaDoorDraw
import Derived.Test.YtefadlbfkhndfaaDoorPairPiece
import Derived.Deep.RegionWith
namespace Go.Proofs.YtefadlbfkhndfaaDoor
open Go.RowKit
set_option linter.unusedSimpArgs false
set_option linter.unusedVariables false

set_option maxHeartbeats 2000000 in
theorem l91Core_any (g p : Nat) (w : World) (h : Rd w g 62 p) (hp : p ≤ 1000000) :
    Calls Tryd.prog 29 #[.pointer (some ⟨g, 0, none⟩)] w (DrawnRow PP 2 59 w g 62 p 1000 10) := by
  obtain ⟨i0, hi, hz0, hz1, hz2⟩ := info_parts infoPiece
  have hg := h.lt
  go_enter Tryd.func29, Tryd.ntmps29
  go_wp2_with fail
  have h1 := h.alloc (.cells #[] 59)
  refine (pick_any g p 5 _ h1 (by omega) (by omega)).mono ?_
  rintro e w1 ⟨d0, rfl, hd0, hr1, hg1⟩
  have hO : Own PP 2 w1 w.heap.size 59 (.slice (some ⟨w.heap.size, 0, none⟩) 0 0) 0 [] := (Own.made PP 2 w w.heap.size _ (Nat.le_refl _)).kept hg1 (by intro k hk; simp at hk; omega)
  have G1 : w.grownBy w1 (some g) := grown_trans' (World.grownBy_alloc w _ _) hg1
  have hd05 : d0 < 5 := by omega
  clear h1 hg1 hd0
  go_wp2_with fail
  refine (pick_any g (p + 1) 6 _ hr1 (by omega) (by omega)).mono ?_
  rintro e w2 ⟨n, rfl, hn, hr2, hg2⟩
  have hO2 := hO.kept hg2 (by intro k hk; simp at hk; omega)
  have G2 := grown_trans' G1 hg2
  have hn6 : n < 6 := by omega
  clear hO hr1 hg2 G1 hn
  go_wp2_with fail
  go_loopw [3, 4, 6] (fun v d i wr => ∃ (k q : Nat) (D : Int) (l : List (Int × Int)), k ≤ n ∧ i = .int .i64 k ∧ d = .int .i64 D ∧ 0 ≤ D ∧ D ≤ 50 + 100 * k ∧ Own PP 2 wr w.heap.size 59 v k l ∧ Rd wr g 62 q ∧ q ≤ p + 2 + 2 * k ∧ w.grownBy wr (some g)) (fun _ _ i _ => n - (intOf i).toNat)
  case atStart => exact ⟨0, p + 1 + 1, (d0 : Int) * 10, [], Nat.zero_le _, rfl, rfl, by omega, by omega, hO2, hr2, by omega, G2⟩
  case round =>
    obtain ⟨k, q, D, l, hk, rfl, rfl, hD0, hD1, hw, hr, hq, G⟩ := hrel
    by_cases hlt : k < n
    · obtain ⟨A0, c0, rfl, _, _⟩ := hw.form
      go_wp2_with fail
      refine (pick_any g q 60 _ hr (by omega) (by omega)).mono ?_
      rintro e w3 ⟨y, rfl, hy, hr3, hg3⟩
      have hw3 := hw.kept hg3 (by intro k hk; simp at hk; omega)
      have G3 := grown_trans' G hg3
      have hy60 : y < 60 := by omega
      clear hw hg3 hr G hy
      go_wp2_with (at_builtin; (refine wpList_append_own _ rfl _ _ 30 rfl w.heap.size 59 i0 (.agg #[.int .i64 0, .int .i64 0]) 2 16 Tryd.underlying30 hi hz0 hz1 hz2 rfl (by decide) _ _ _ rfl ((hw3.2.alloc _).alloc _) ⟨w3.heap.size + 1, 0, none⟩ 1 1 [.int .i64 D, .int .i64 (D + 1 + (y : Int))] rfl rfl ?c1 ?c2 ?c3 ?c4 ?c5 ?_))
      case c1 =>
        have := cell_new2 (w3.alloc (.cells #[.int .i64 D, .int .i64 (D + 1 + (y : Int))] 59)) (.int .i64 D) (.int .i64 (D + 1 + (y : Int))) 59
        simpa using this
      case c2 => exact one_PP _ _
      case c3 => unfold maxLen; omega
      case c4 => omega
      case c5 => have := G3.size; simp; omega
      intro v' w4 hown' hg4 _
      have hw4 : Own PP 2 w4 w.heap.size 59 v' (k + 1) (l ++ [(D, D + 1 + (y : Int))]) := Own.snoc hw3.1 hown'
      have hr4 := ((hr3.alloc (.cells #[.int .i64 D, .int .i64 (D + 1 + (y : Int))] 59)).alloc (.cells #[.int .i64 D, .int .i64 (D + 1 + (y : Int))] 59)).grown hg4 (fun j hj => by have := (hw3.2.lt j hj).1; omega)
      have G4 := grown_step (grown_alloc (grown_alloc G3 (.cells #[.int .i64 D, .int .i64 (D + 1 + (y : Int))] 59)) (.cells #[.int .i64 D, .int .i64 (D + 1 + (y : Int))] 59)) hg4 (fun j hj => .inr (hw3.2.lt j hj).1)
      have hcb : w4.cell? ⟨w3.heap.size, 1, none⟩ = some (.int .i64 (D + 1 + (y : Int))) := by
        refine hg4.cell (v := .int .i64 (D + 1 + (y : Int))) ?_ (fun e => by have := (hw3.2.lt _ e.symm).2; simp at this)
        rw [World.cell?_alloc_lt _ _ ⟨w3.heap.size, 1, none⟩ (by simp)]
        exact (cell_of_row _ _ 1 _ _ _ (heap_alloc_new w3 _)).trans rfl
      have hgb := hr3.lt
      obtain ⟨A4, c4, rfl, _, _⟩ := hw4.form
      generalize w3.heap.size = b7 at hcb hgb ⊢
      clear hw3 hown' hg4 hr3 G3
      have hgb' : ¬ b7 = g := by omega
      have HW4 := Lib.hid hw4
      have HR4 := Lib.hid hr4
      have HG4 := Lib.hid G4
      clear hw4 hr4 G4
      go_wp2_with fail
      go_region_with (go_at_call 19; refine (pick_any g (q + 1) 30 _ (HR4.out.below (Below.refl _ _).drew (Nat.lt_succ_self _)) (by omega) (by omega)).mono ?_; rintro e w5 ⟨z, rfl, hz, hr5, hg5⟩; have hcb5 := hg5.cell (a := ⟨b7, 1, none⟩) hcb (by intro e; injection e with e; exact hgb' e))
      all_goals
        go_wp2
        go_roundw
        case rel => exact ⟨k + 1, q + 1 + 1, _, _, by omega, by go_num, rfl, by split <;> omega, by split <;> omega, (HW4.out.drew).kept hg5 (by intro j hj; injection hj with hj; omega), hr5, by omega, grown_trans' (grown_drew HG4.out) hg5⟩
        case measure => simp [intOf]; omega
    · obtain rfl : k = n := by omega
      clear hlt
      obtain ⟨A, c, rfl, _, _⟩ := hw.form
      by_cases h0 : k = 0
      · subst h0
        go_wp2
        go_ret
        exact ⟨A, 0, c, l, q, rfl, hw, by omega, hr, by omega, G⟩
      · obtain ⟨G0, c0, e0, hG0, hG1, hkc⟩ := hw.head (by omega)
        injection e0 with e0 _ e2
        subst e0; subst e2
        have hk0 : 0 < k := by omega
        go_wp2_with fail
        refine (pick_any g q 40 _ hr (by omega) (by omega)).mono ?_
        rintro e w3 ⟨x, rfl, hx, hr3, hg3⟩
        have hw3 := hw.kept hg3 (by intro k hk; simp at hk; omega)
        have G3 := grown_trans' G hg3
        clear hw hr G hg3
        by_cases hx0 : x = 0
        · subst hx0
          obtain ⟨j, rfl⟩ : ∃ j, k = j + 1 := ⟨k - 1, by omega⟩
          have hjl : j < l.length := by rw [hw3.1]; omega
          obtain ⟨a, b, hab⟩ : ∃ a b, l[j]? = some (a, b) := ⟨l[j].1, l[j].2, List.getElem?_eq_getElem hjl⟩
          obtain ⟨f0, f1⟩ := hw3.pairAt hab
          have z1 := hw3.2.frozenAt (j * 2 + 1)
          have HS := Lib.hid (hw3.set1 hab a)
          have HR := Lib.hid (hr3.grown (grown_setCell (p := ⟨G0, j * 2 + 1, none⟩) (grown_refl _ (some G0)) (.inl rfl) (.int .i64 a)) (by intro k hk; simp at hk; omega))
          have HG := Lib.hid (grown_setCell (p := ⟨G0, j * 2 + 1, none⟩) G3 (.inr hG0) (.int .i64 a))
          clear hw3 hr3 G3 hab hjl
          go_wp2
          go_ret
          exact ⟨_, _, _, _, _, rfl, HS.out, by omega, HR.out, by omega, HG.out⟩
        · by_cases hx1 : x = 1
          · subst hx1
            have d0 : ((1 : Int) == 0) = false := rfl
            obtain ⟨j, rfl⟩ : ∃ j, k = j + 1 := ⟨k - 1, by omega⟩
            have hjl : j < l.length := by rw [hw3.1]; omega
            obtain ⟨a, b, hab⟩ : ∃ a b, l[j]? = some (a, b) := ⟨l[j].1, l[j].2, List.getElem?_eq_getElem hjl⟩
            obtain ⟨f0, f1⟩ := hw3.pairAt hab
            have z1 := hw3.2.frozenAt (j * 2 + 1)
            have HS := Lib.hid (hw3.set1 hab 30001)
            have HR := Lib.hid (hr3.grown (grown_setCell (p := ⟨G0, j * 2 + 1, none⟩) (grown_refl _ (some G0)) (.inl rfl) (.int .i64 30001)) (by intro k hk; simp at hk; omega))
            have HG := Lib.hid (grown_setCell (p := ⟨G0, j * 2 + 1, none⟩) G3 (.inr hG0) (.int .i64 30001))
            clear hw3 hr3 G3 hab hjl
            go_wp2
            go_ret
            exact ⟨_, _, _, _, _, rfl, HS.out, by omega, HR.out, by omega, HG.out⟩
          · by_cases hx2 : x = 2
            · subst hx2
              have d0 : ((2 : Int) == 0) = false := rfl
              have d1 : ((2 : Int) == 1) = false := rfl
              obtain ⟨a, b, hab, f0, f1, _, _⟩ := hw3.first hk0
              have hab' := Lib.hid hab
              have hk0' : (0 : Int) < (k : Int) := by omega
              clear hab
              go_wp2_with (at_builtin; (refine wpList_append_own _ rfl _ _ 30 rfl w.heap.size 59 i0 (.agg #[.int .i64 0, .int .i64 0]) 2 16 Tryd.underlying30 hi hz0 hz1 hz2 rfl (by decide) _ _ _ rfl (hw3.2.alloc _) ⟨w3.heap.size, 0, none⟩ 1 1 [.int .i64 a, .int .i64 b] rfl rfl ?d1 ?d2 ?d3 ?d4 ?d5 ?_))
              case d1 => exact cell_new2 _ _ _ _
              case d2 => exact one_PP _ _
              case d3 => unfold maxLen; omega
              case d4 => omega
              case d5 => have := G3.size; simp; omega
              intro v' w4 hown' hg4 _
              have hw4 : Own PP 2 w4 w.heap.size 59 v' (k + 1) (l ++ [(a, b)]) := Own.snoc hw3.1 hown'
              have hr4 := (hr3.alloc (.cells #[.int .i64 a, .int .i64 b] 59)).grown hg4 (fun j hj => by have := (hw3.2.lt j hj).1; omega)
              have G4 := grown_step (grown_alloc G3 (.cells #[.int .i64 a, .int .i64 b] 59)) hg4 (fun j hj => .inr (hw3.2.lt j hj).1)
              obtain ⟨A4, c4, rfl, _, _⟩ := hw4.form
              clear hw3 hown' hg4 hr3 G3
              go_wp2
              go_ret
              exact ⟨_, _, _, _, _, rfl, hw4, by omega, hr4, by omega, G4⟩
            · have d0 : ((x : Int) == 0) = false := by simp; omega
              have d1 : ((x : Int) == 1) = false := by simp; omega
              have d2 : ((x : Int) == 2) = false := by simp; omega
              go_wp2
              go_ret
              exact ⟨_, _, _, l, _, rfl, hw3, by omega, hr3, by omega, G3⟩

theorem two_cells (w : World) (T : TypeId) (a b : Int) {y : Nat} (hy : (y : Int) < 2 ∨ y = 0) : ∃ v : Int, (w.alloc (.cells #[.int .i64 a, .int .i64 b] T)).cell? ⟨w.heap.size, y, none⟩ = some (.int .i64 v) := by
  rcases (show y = 0 ∨ y = 1 by omega) with rfl | rfl
  · exact ⟨a, (cell_of_row _ _ 0 _ _ _ (heap_alloc_new w _)).trans rfl⟩
  · exact ⟨b, (cell_of_row _ _ 1 _ _ _ (heap_alloc_new w _)).trans rfl⟩
theorem two_cells' {w w1 : World} {T : TypeId} {a b : Int} {g y : Nat} (hg : (w.alloc (.cells #[.int .i64 a, .int .i64 b] T)).grownBy w1 (some g)) (hlt : g < w.heap.size) (hy : (y : Int) < 2 ∨ y = 0) :
    ∃ v : Int, w1.cell? ⟨w.heap.size, y, none⟩ = some (.int .i64 v) := by
  obtain ⟨v, hv⟩ := two_cells w T a b hy
  exact ⟨v, hg.cell hv (by simp; omega)⟩

theorem undrew {w w1 : World} {row : Option Nat} (h : w.drew.grownBy w1 row) : w.grownBy w1 row := ⟨h.os, h.tape, h.output, h.size, h.block⟩
end Go.Proofs.YtefadlbfkhndfaaDoor
