/-
  Contract: the drawn row.
-/
import Derived.Test.YtfohfcpnhhiemaaDraw
import Derived.Test.YtfohfcpnhhiemaaStackSum
namespace Go.Proofs.Ytfohfcpnhhiemaa
open Go.RowKit
set_option linter.unusedSimpArgs false
set_option linter.unusedVariables false

theorem Own.firstI {w : World} {base G n c : Nat} {T : TypeId} {l : List Int} (h : Own II 1 w base T (.slice (some ⟨G, 0, none⟩) n c) n l) (hn : 0 < n) :
    ∃ a, l[0]? = some a ∧ w.cell? ⟨G, 0, none⟩ = some (.int .i64 a) ∧ w.frozen? ⟨G, 0, none⟩ = false := by
  have hl : 0 < l.length := by rw [h.1]; exact hn
  have h0 : l[0]? = some l[0] := List.getElem?_eq_getElem hl
  exact ⟨_, h0, h.intAt h0, h.2.frozenAt 0⟩

set_option maxHeartbeats 2000000 in
theorem l91Row_any (g p : Nat) (w : World) (h : Rd w g 62 p) (hp : p ≤ 1000000) :
    Calls Try.prog 67 #[.pointer (some ⟨g, 0, none⟩)] w (DrawnRow II 1 3 w g 62 p 1000 7) := by
  obtain ⟨i0, hi, hz0, hz1, hz2⟩ := info_parts infoInt
  have hg := h.lt
  go_enter Try.func67, Try.ntmps67
  go_wp2_with fail
  have h1 := h.alloc (.cells #[] 3)
  refine (pick_any g p 7 _ h1 (by omega) (by omega)).mono ?_
  rintro e w1 ⟨n, rfl, hn, hr1, hg1⟩
  have hO : Own II 1 w1 w.heap.size 3 (.slice (some ⟨w.heap.size, 0, none⟩) 0 0) 0 [] := (Own.made II 1 w w.heap.size _ (Nat.le_refl _)).kept hg1 (by intro k hk; simp at hk; omega)
  have hn4 : n < 7 := by omega
  have G1 : w.grownBy w1 (some g) := grown_trans' (World.grownBy_alloc w _ _) hg1
  clear hn h1 hg1
  go_wp2_with fail
  go_loopw [3, 5] (fun v i wr => ∃ (k q : Nat) (l : List Int), k ≤ n + 1 ∧ i = .int .i64 k ∧ Own II 1 wr w.heap.size 3 v k l ∧ Rd wr g 62 q ∧ q ≤ p + 1 + 2 * k ∧ w.grownBy wr (some g)) (fun _ i _ => n + 1 - (intOf i).toNat)
  case atStart => exact ⟨0, p + 1, [], Nat.zero_le _, rfl, hO, hr1, by omega, G1⟩
  case round =>
    clear hO G1 hr1
    obtain ⟨k, q, l, hk, rfl, hw, hr, hq, G⟩ := hrel
    by_cases hlt : k < n + 1
    · have hlt' : (k : Int) < 1 + (n : Int) := by omega
      go_wp2_with fail
      refine (pick_any g q 41 _ hr (by omega) (by omega)).mono ?_
      rintro e w2 ⟨x, rfl, hx, hr2, hg2⟩
      have hw2 := hw.kept hg2 (by intro k hk; simp at hk; omega)
      have G2 := grown_trans' G hg2
      clear hw hg2 hr G
      go_wp2_with (at_builtin; refine wpList_append_own _ rfl _ _ 28 rfl w.heap.size 3 i0 (.int .i64 0) 1 8 Try.underlying28 hi hz0 hz1 hz2 rfl (by decide) _ _ _ rfl (hw2.2.alloc _) ⟨w2.heap.size, 0, none⟩ 1 1 [.int .i64 ((x : Int) - 15)] rfl rfl ?c1 ?c2 ?c3 ?c4 ?c5 ?_)
      case c1 => exact cell_new1 _ _ _
      case c2 => exact one_II _
      case c3 => unfold maxLen; omega
      case c4 => omega
      case c5 => have := G2.size; simp; omega
      intro v' w4 hown' hg4 _
      have hw4 : Own II 1 w4 w.heap.size 3 v' (k + 1) (l ++ [(x : Int) - 15]) := Own.snoc' hw2.1 (by simp [II]) hown'
      have hr4 := (hr2.alloc (.cells #[.int .i64 ((x : Int) - 15)] 3)).grown hg4 (fun j hj => by have := (hw2.2.lt j hj).1; omega)
      have G4 := grown_step (grown_alloc G2 (.cells #[.int .i64 ((x : Int) - 15)] 3)) hg4 (fun j hj => .inr (hw2.2.lt j hj).1)
      clear hw2 hown' hg4 hr2 G2
      go_wp2
      go_roundw
      case rel => exact ⟨k + 1, q + 1, _, by omega, by go_num, hw4, hr4, by omega, G4⟩
      case measure => simp [intOf]; omega
    · obtain rfl : k = n + 1 := by omega
      obtain ⟨G0, c0, rfl, hG0, hG1, hkc⟩ := hw.head (by omega)
      clear hlt
      go_wp2_with fail
      refine (pick_any g q 40 _ hr (by omega) (by omega)).mono ?_
      rintro e w2 ⟨x, rfl, hx, hr2, hg2⟩
      have hw2 := hw.kept hg2 (by intro k hk; simp at hk; omega)
      have G2 := grown_trans' G hg2
      clear hw hr G hg2
      by_cases hx0 : x = 0
      · subst hx0
        go_wp2_with fail
        refine (pick_any g (q + 1) 3 _ (hr2.alloc _) (by omega) (by omega)).mono ?_
        rintro e w3 ⟨y, rfl, hy, hr3, hg3⟩
        have hw3 := (hw2.alloc (.cells #[.int .i64 10000, .int .i64 10001, .int .i64 (-10001)] 3)).kept hg3 (by intro k hk; simp at hk; omega)
        have G3 := grown_trans' (grown_alloc G2 _) hg3
        have hgl := hr2.lt
        have k0 := grown_cellAt hg3 hgl (i := 0) rfl
        have k1 := grown_cellAt hg3 hgl (i := 1) rfl
        have k2 := grown_cellAt hg3 hgl (i := 2) rfl
        clear hg3 hw2 hr2 G2
        obtain ⟨a, hl0, f0, z0⟩ := hw3.firstI (by omega)
        have hn0 : (0 : Int) < (n : Int) + 1 := by omega
        rcases (show y = 0 ∨ y = 1 ∨ y = 2 by omega) with rfl | rfl | rfl
        all_goals
          go_wp2
          go_ret
          refine ⟨_, _, _, _, _, rfl, hw3.setInt (k := 0) _, by omega, hr3.grown (grown_setCell (grown_refl _ (some G0)) (.inl rfl) _) (by intro k hk; simp at hk; omega), by omega, grown_setCell G3 (.inr hG0) _⟩
      · by_cases hx1 : x = 1
        · subst hx1
          have d0 : ((1 : Int) == 0) = false := rfl
          go_wp2
          go_ret
          exact ⟨_, 0, 0, [], _, rfl, (Own.made II 1 w2 w.heap.size _ G2.size), by omega, hr2.alloc _, by omega, grown_alloc G2 _⟩
        · have d0 : ((x : Int) == 0) = false := by simp; omega
          have d1 : ((x : Int) == 1) = false := by simp; omega
          go_wp2
          go_ret
          exact ⟨_, _, _, l, _, rfl, hw2, by omega, hr2, by omega, G2⟩
end Go.Proofs.Ytfohfcpnhhiemaa
