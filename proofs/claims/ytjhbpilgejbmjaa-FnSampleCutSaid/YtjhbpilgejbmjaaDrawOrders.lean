/-
  Drawn orders.
-/
import Derived.Test.YtjhbpilgejbmjaaDraw
import Derived.Test.YtjhbpilgejbmjaaPairOrder
namespace Go.Proofs.Ytjhbpilgejbmjaa
open Go.RowKit
set_option linter.unusedSimpArgs false
set_option linter.unusedVariables false

set_option maxHeartbeats 1000000 in
theorem l93Orders_any (g p : Nat) (w : World) (h : Rd w g 79 p) (hp : p ≤ 1000000) :
    Calls Try.prog 38 #[.pointer (some ⟨g, 0, none⟩)] w (DrawnRow PP 2 32 w g 79 p 1000 10) := by
  obtain ⟨i0, hi, hz0, hz1, hz2⟩ := info_parts infoOrder
  have hg := h.lt
  go_enter Try.func38, Try.ntmps38
  go_wp2_with fail
  have h1 := h.alloc (.cells #[] 32)
  refine (pick_any g p 4 _ h1 (by omega) (by omega)).mono ?_
  rintro e w1 ⟨n, rfl, hn, hr1, hg1⟩
  have hO : Own PP 2 w1 w.heap.size 32 (.slice (some ⟨w.heap.size, 0, none⟩) 0 0) 0 [] := (Own.made PP 2 w w.heap.size _ (Nat.le_refl _)).kept hg1 (by intro k hk; simp at hk; omega)
  have hn4 : n < 4 := by omega
  have G1 : w.grownBy w1 (some g) := grown_trans' (World.grownBy_alloc w _ _) hg1
  have S1 : w.heap.size < w1.heap.size := (Own.block hO).2
  clear hn h1 hg1
  go_wp2_with fail
  go_loopw [3, 5] (fun v i wr => ∃ (k q : Nat) (l : List (Int × Int)), k ≤ n ∧ i = .int .i64 k ∧ Own PP 2 wr w.heap.size 32 v k l ∧ Rd wr g 79 q ∧ q ≤ p + 1 + 2 * k ∧ w.grownBy wr (some g)) (fun _ i _ => n - (intOf i).toNat)
  case atStart => exact ⟨0, p + 1, [], Nat.zero_le _, rfl, hO, hr1, by omega, G1⟩
  case round =>
    obtain ⟨k, q, l, hk, rfl, hw, hr, hq, G⟩ := hrel
    by_cases hlt : k < n
    · go_wp2_with fail
      refine (pick_any g q 14 _ hr (by omega) (by omega)).mono ?_
      rintro e w2 ⟨x, rfl, hx, hr2, hg2⟩
      have hw2 := hw.kept hg2 (by intro k hk; simp at hk; omega)
      go_wp2_with fail
      refine (pick_any g (q + 1) 3 _ hr2 (by omega) (by omega)).mono ?_
      rintro e w3 ⟨y, rfl, hy, hr3, hg3⟩
      have hw3 := hw2.kept hg3 (by intro k hk; simp at hk; omega)
      have G3 := grown_trans' G (grown_trans' hg2 hg3)
      clear hw hw2 hg2 hg3 hr hr2 G
      go_wp2_with (at_builtin; go_loud (refine wpList_append_own _ rfl _ _ 24 rfl w.heap.size 32 i0 (.agg #[.int .i64 0, .int .i64 0]) 2 16 Try.underlying24 hi hz0 hz1 hz2 rfl (by decide) _ _ _ rfl (hw3.2.alloc _) ⟨w3.heap.size, 0, none⟩ 1 1 [.int .i64 (1 + (x : Int)), .int .i64 (1 + (y : Int))] rfl rfl ?c1 ?c2 ?c3 ?c4 ?c5 ?_))
      case c1 => exact cell_new2 _ _ _ _
      case c2 => exact one_PP _ _
      case c3 => unfold maxLen; omega
      case c4 => omega
      case c5 => have := G3.size; simp; omega
      intro v' w4 hown' hg4 _
      have hw4 : Own PP 2 w4 w.heap.size 32 v' (k + 1) (l ++ [(1 + (x : Int), 1 + (y : Int))]) := Own.snoc hw3.1 hown'
      have hr4 := (hr3.alloc (.cells #[.int .i64 (1 + (x : Int)), .int .i64 (1 + (y : Int))] 32)).grown hg4 (fun j hj => by have := (hw3.2.lt j hj).1; omega)
      have G4 := grown_step (grown_alloc G3 (.cells #[.int .i64 (1 + (x : Int)), .int .i64 (1 + (y : Int))] 32)) hg4 (fun j hj => .inr (hw3.2.lt j hj).1)
      clear hw3 hown' hg4 hr3 G3
      go_wp2
      go_roundw
      case rel => exact ⟨k + 1, q + 1 + 1, _, by omega, by go_num, hw4, hr4, by omega, G4⟩
      case measure => simp [intOf]; omega
    · obtain rfl : k = n := by omega
      clear hlt
      obtain ⟨A, c, rfl, _, _⟩ := hw.form
      by_cases h0 : k = 0
      · subst h0
        go_wp2
        go_ret
        exact ⟨A, 0, c, l, q, rfl, hw, by omega, hr, by omega, G⟩
      · obtain ⟨G0, c0, e0, hG0, hG1, hkc⟩ := hw.head (by omega)
        injection e0 with e0 _ e2
        subst e0; subst e2
        have hk0 : 0 < k := by omega
        go_wp2_with fail
        refine (pick_any g q 40 _ hr (by omega) (by omega)).mono ?_
        rintro e w2 ⟨x, rfl, hx, hr2, hg2⟩
        have hw2 := hw.kept hg2 (by intro k hk; simp at hk; omega)
        have G2 := grown_trans' G hg2
        clear hw hr G hg2
        by_cases hx0 : x = 0
        · subst hx0
          go_wp2_with fail
          refine (pick_any g (q + 1) 2 _ (hr2.alloc _) (by omega) (by omega)).mono ?_
          rintro e w3 ⟨y, rfl, hy, hr3, hg3⟩
          have hw3 := (hw2.alloc (.cells #[.int .i64 0, .int .i64 1001] 3)).kept hg3 (by intro k hk; simp at hk; omega)
          have G3 := grown_trans' (grown_alloc G2 _) hg3
          have hgl := hr2.lt
          have k0 := grown_cellAt hg3 hgl (i := 0) rfl
          have k1 := grown_cellAt hg3 hgl (i := 1) rfl
          clear hg3 hw2 hr2 G2
          obtain ⟨a, b, hl0, f0, f1, z0, z1⟩ := hw3.first hk0
          have hl0' := Lib.hid hl0
          clear hl0
          have hy2 : y < 2 := by omega
          rcases (show y = 0 ∨ y = 1 by omega) with rfl | rfl
          all_goals
            go_wp2
            go_ret
            refine ⟨_, _, _, _, _, rfl, hw3.set0 (k := 0) hl0'.out _, by omega, hr3.grown (grown_setCell (grown_refl _ (some G0)) (.inl rfl) _) (by intro k hk; simp at hk; omega), by omega, grown_setCell G3 (.inr hG0) _⟩
        · by_cases hx1 : x = 1
          · subst hx1
            have d0 : ((1 : Int) == 0) = false := rfl
            go_wp2_with fail
            refine (pick_any g (q + 1) 2 _ (hr2.alloc _) (by omega) (by omega)).mono ?_
            rintro e w3 ⟨y, rfl, hy, hr3, hg3⟩
            have hw3 := (hw2.alloc (.cells #[.int .i64 0, .int .i64 21] 3)).kept hg3 (by intro k hk; simp at hk; omega)
            have G3 := grown_trans' (grown_alloc G2 _) hg3
            have hgl := hr2.lt
            have k0 := grown_cellAt hg3 hgl (i := 0) rfl
            have k1 := grown_cellAt hg3 hgl (i := 1) rfl
            clear hg3 hw2 hr2 G2
            obtain ⟨a, b, hl0, f0, f1, z0, z1⟩ := hw3.first hk0
            have hl0' := Lib.hid hl0
            clear hl0
            have hy2 : y < 2 := by omega
            rcases (show y = 0 ∨ y = 1 by omega) with rfl | rfl
            all_goals
              go_wp2
              go_ret
              refine ⟨_, _, _, _, _, rfl, hw3.set1 (k := 0) hl0'.out _, by omega, hr3.grown (grown_setCell (grown_refl _ (some G0)) (.inl rfl) _) (by intro k hk; simp at hk; omega), by omega, grown_setCell G3 (.inr hG0) _⟩
          · have d0 : ((x : Int) == 0) = false := by simp; omega
            have d1 : ((x : Int) == 1) = false := by simp; omega
            go_wp2
            go_ret
            exact ⟨_, _, _, l, _, rfl, hw2, by omega, hr2, by omega, G2⟩
end Go.Proofs.Ytjhbpilgejbmjaa
