/-
  Drawn curves; DrawCurveText.
-/
import Derived.Test.YtjbdoohpljffnaaDoorDraw
import Derived.Test.YtjbdoohpljffnaaDoorPairKnot
import Derived.Lib.Builder
import Derived.Deep.RegionWith
namespace Go.Proofs.YtjbdoohpljffnaaDoor
open Go.RowKit
set_option linter.unusedSimpArgs false
set_option linter.unusedVariables false

theorem Own.first1 {w : World} {base g n c : Nat} {T : TypeId} {L : List (Int × Int)} (h : Own PP 2 w base T (.slice (some ⟨g, 0, none⟩) n c) n L) (hn : 0 < n) : ∃ q, Own PP 2 w base T (.slice (some ⟨g, 0, none⟩) 1 c) 1 [q] := by
  obtain ⟨hl, hlen, h0 | ⟨g', cap, cur, e, hb, hg, hnc, hm, hs, ht⟩⟩ := h
  · omega
  · cases L with
    | nil => simp at hl; omega
    | cons q t =>
      injection e with e1 e2 e3
      injection e1 with e1
      injection e1 with e1
      subst e1; subst e3
      refine ⟨q, rfl, rfl, .inr ⟨g, c, cur, rfl, hb, hg, by omega, hm, hs, ?_⟩⟩
      have h1 : cur.toList.take (1 * 2) = (cur.toList.take (n * 2)).take 2 := by
        rw [List.take_take]
        congr 1
        omega
      rw [h1, ht]
      rfl

set_option maxRecDepth 100000 in
set_option maxHeartbeats 4000000 in
theorem l91Curve_any (g p : Nat) (w : World) (h : Rd w g 109 p) (hp : p ≤ 1000000) :
    Calls Tryd.prog 56 #[.pointer (some ⟨g, 0, none⟩)] w (DrawnRow PP 2 64 w g 109 p 1000 6) := by
  obtain ⟨i0, hi, hz0, hz1, hz2⟩ := info_parts infoKnot
  have hg := h.lt
  go_enter Tryd.func56, Tryd.ntmps56
  go_wp2_with fail
  refine (pick_any g p 20 _ h (by omega) (by omega)).mono ?_
  rintro e w1 ⟨x0, rfl, hx0, hr1, hg1⟩
  go_wp2_with fail
  refine (pick_any g (p + 1) 20 _ hr1 (by omega) (by omega)).mono ?_
  rintro e w2 ⟨y0, rfl, hy0, hr2, hg2⟩
  have G2 := grown_trans' hg1 hg2
  have hx20 : x0 < 20 := by omega
  have hy20 : y0 < 20 := by omega
  have hw2 : w.heap.size ≤ w2.heap.size := G2.size
  clear hr1 hg1 hg2 hx0 hy0
  go_wp2_with fail
  have hr2' := (hr2.alloc (.cells #[.int .i64 (x0 : Int), .int .i64 (y0 : Int)] 64)).alloc (.cells #[.int .i64 (x0 : Int), .int .i64 (y0 : Int)] 64)
  refine (pick_any g (p + 1 + 1) 5 _ hr2' (by omega) (by omega)).mono ?_
  rintro e w3 ⟨n0, rfl, hn, hr3, hg3⟩
  have hk0 := heap_alloc_new w2 (.cells #[.int .i64 (x0 : Int), .int .i64 (y0 : Int)] 64)
  have hK : w3.heap[w2.heap.size]? = some (.cells #[.int .i64 (x0 : Int), .int .i64 (y0 : Int)] 64 (0, 0)) := by
    rw [hg3.block w2.heap.size (by simp; omega) (by intro e; injection e with e; have := hr2.lt; omega), Lib.alloc_old _ _ _ (by simp)]
    exact hk0
  have hO : Own PP 2 w3 (w2.heap.size + 1) 64 (.slice (some ⟨w2.heap.size + 1, 0, none⟩) 1 1) 1 [((x0 : Int), (y0 : Int))] := by
    have e1 : (w2.alloc (.cells #[.int .i64 (x0 : Int), .int .i64 (y0 : Int)] 64)).heap.size = w2.heap.size + 1 := by simp
    have h0 : Own PP 2 ((w2.alloc (.cells #[.int .i64 (x0 : Int), .int .i64 (y0 : Int)] 64)).alloc (.cells #[.int .i64 (x0 : Int), .int .i64 (y0 : Int)] 64)) (w2.heap.size + 1) 64 (.slice (some ⟨(w2.alloc (.cells #[.int .i64 (x0 : Int), .int .i64 (y0 : Int)] 64)).heap.size, 0, none⟩) 1 1) 1 [((x0 : Int), (y0 : Int))] :=
      ⟨rfl, World.ownsRow_lit _ #[.int .i64 (x0 : Int), .int .i64 (y0 : Int)] 1 (by rw [e1]; exact Nat.le_refl _) (by unfold maxLen; omega) rfl⟩
    rw [e1] at h0
    exact h0.kept hg3 (by intro k hk; injection hk with hk; have := hr2.lt; omega)
  have G3 : w.grownBy w3 (some g) := grown_trans' (grown_alloc (grown_alloc G2 _) _) hg3
  have hKg : ¬ w2.heap.size = g := by have := hr2.lt; omega
  have hgK : g < w2.heap.size := hr2.lt
  have hKl : w2.heap.size < w3.heap.size := by have := hg3.size; simp at this; omega
  have hn5 : n0 < 5 := by omega
  clear hr2' hg3 hk0 hn hr2 G2
  generalize w2.heap.size = K at hK hO hKg hKl hw2 hgK ⊢
  obtain ⟨N, hN, hN5⟩ : ∃ N : Nat, (1 : Int) + (n0 : Int) = (N : Int) ∧ 1 ≤ N ∧ N ≤ 5 := ⟨n0 + 1, by omega, by omega, by omega⟩
  go_wp2_with fail
  clear hN
  go_loopw [4, 6] (fun v i wr => ∃ (k q : Nat) (X Y : Nat) (l : List (Int × Int)), k ≤ N ∧ i = .int .i64 k ∧ X ≤ 20 + 12 * k ∧ Y ≤ 20 + 12 * k ∧ wr.heap[K]? = some (.cells #[.int .i64 (X : Int), .int .i64 (Y : Int)] 64 (0, 0)) ∧ Own PP 2 wr (K + 1) 64 v (k + 1) l ∧ Rd wr g 109 q ∧ q ≤ p + 3 + 2 * k ∧ w.grownBy wr (some g)) (fun _ i _ => N - (intOf i).toNat)
  case atStart => exact ⟨0, p + 1 + 1 + 1, x0, y0, _, by omega, rfl, by omega, by omega, hK, hO, hr3, by omega, G3⟩
  case round =>
    obtain ⟨k, q, X, Y, l, hk, rfl, hX, hY, hK, hw, hr, hq, G⟩ := hrel
    by_cases hlt : k < N
    · obtain ⟨A0, c0, rfl, _, _⟩ := hw.form
      have hlt' : (k : Int) < (N : Int) := by omega
      have ik0 : (0 : Int) ≤ (k : Int) := by omega
      have d1 : wr.cell? ⟨K, 0, none⟩ = some (.int .i64 (X : Int)) := by rw [Lib.cell_of_heap hK]; rfl
      have d2 : wr.cell? ⟨K, 1, none⟩ = some (.int .i64 (Y : Int)) := by rw [Lib.cell_of_heap hK]; rfl
      have B1 : 0 ≤ (X : Int) + 1 ∧ (X : Int) + 1 ≤ 4611686018427387904 := by omega
      have B2 : 0 ≤ (Y : Int) + 1 ∧ (Y : Int) + 1 ≤ 4611686018427387904 := by omega
      have e1 : IntKind.i64.wrap ((X : Int) + 1) = (X : Int) + 1 := IntWalk.i64_in _ (by omega)
      have e2 : IntKind.i64.wrap ((Y : Int) + 1) = (Y : Int) + 1 := IntWalk.i64_in _ (by omega)
      have HRd := Lib.hid (hr.below (Below.refl _ _).drew (Nat.lt_succ_self _))
      have HG := Lib.hid G
      have HW := Lib.hid hw
      have HK := Lib.hid hK
      have hgl := hr.lt
      have hKl' : K < wr.heap.size := by
        rcases Nat.lt_or_ge K wr.heap.size with h' | h'
        · exact h'
        · simp [Array.getElem?_eq_none h'] at hK
      clear B1 B2 hK hw G hr
      go_wp2_with fail
      go_region_with (first
        | (go_at_call 76; refine (pick_any g q 12 wr.drew HRd.out (by omega) (by omega)).mono ?_; rintro e w4 ⟨a, rfl, ha, hr4, hg4⟩; have hK4 := (hg4.block K (by exact hKl') (by intro e; injection e with e; exact hKg e)).trans HK.out; have d3 : w4.cell? ⟨K, 0, none⟩ = some (.int .i64 (X : Int)) := (by rw [Lib.cell_of_heap hK4]; rfl); have d4 : w4.cell? ⟨K, 1, none⟩ = some (.int .i64 (Y : Int)) := (by rw [Lib.cell_of_heap hK4]; rfl); have ha12 : a < 12 := (by omega); have e3 : IntKind.i64.wrap ((X : Int) + 1 + (a : Int)) = (X : Int) + 1 + (a : Int) := IntWalk.i64_in _ (by omega))
        | (go_at_call 76; refine (pick_any g (q + 1) 12 w4 hr4 (by omega) (by omega)).mono ?_; rintro e w5 ⟨b, rfl, hb, hr5, hg5⟩; have hK5 := (hg5.block K (by have := hg4.size; simp at this; omega) (by intro e; injection e with e; exact hKg e)).trans hK4; have d5 : w5.cell? ⟨K, 0, none⟩ = some (.int .i64 (X : Int)) := (by rw [Lib.cell_of_heap hK5]; rfl); have d6 : w5.cell? ⟨K, 1, none⟩ = some (.int .i64 (Y : Int)) := (by rw [Lib.cell_of_heap hK5]; rfl); have z1 : w5.frozen? ⟨K, 0, none⟩ = false := Lib.frozen_of_heap hK5 0; have z2 : w5.frozen? ⟨K, 1, none⟩ = false := Lib.frozen_of_heap hK5 1; have hb12 : b < 12 := (by omega); have e4 : IntKind.i64.wrap ((Y : Int) + 1 + (b : Int)) = (Y : Int) + 1 + (b : Int) := IntWalk.i64_in _ (by omega)))
      all_goals
        have hK6 : ((w5.setCell ⟨K, 0, none⟩ (.int .i64 ((X : Int) + 1 + (a : Int)))).setCell ⟨K, 1, none⟩ (.int .i64 ((Y : Int) + 1 + (b : Int)))).heap[K]? = some (.cells #[.int .i64 ((X : Int) + 1 + (a : Int)), .int .i64 ((Y : Int) + 1 + (b : Int))] 64 (0, 0)) := by
          simp [World.setCell, Array.getElem?_modify, hK5]
        have hw5 := ((HW.out.drew).kept hg4 (by intro j hj; injection hj with hj; omega)).kept hg5 (by intro j hj; injection hj with hj; omega)
        have hw6 := (hw5.kept (grown_setCell (p := ⟨K, 0, none⟩) (grown_refl w5 (some K)) (.inl rfl) (.int .i64 ((X : Int) + 1 + (a : Int)))) (by intro j hj; injection hj with hj; omega)).kept (grown_setCell (p := ⟨K, 1, none⟩) (grown_refl _ (some K)) (.inl rfl) (.int .i64 ((Y : Int) + 1 + (b : Int)))) (by intro j hj; injection hj with hj; omega)
        have hr6 := (hr5.grown (grown_setCell (p := ⟨K, 0, none⟩) (grown_refl w5 (some K)) (.inl rfl) (.int .i64 ((X : Int) + 1 + (a : Int)))) (by intro j hj; injection hj with hj; omega)).grown (grown_setCell (p := ⟨K, 1, none⟩) (grown_refl _ (some K)) (.inl rfl) (.int .i64 ((Y : Int) + 1 + (b : Int)))) (by intro j hj; injection hj with hj; omega)
        have G6 := grown_setCell (p := ⟨K, 1, none⟩) (grown_setCell (p := ⟨K, 0, none⟩) (grown_trans' (grown_trans' (grown_drew HG.out) hg4) hg5) (.inr hw2) (.int .i64 ((X : Int) + 1 + (a : Int)))) (.inr hw2) (.int .i64 ((Y : Int) + 1 + (b : Int)))
        clear hK5 hw5 hr5 hg4 hg5 hK4 hr4 d1 d2 d3 d4 d5 d6 z1 z2 HW HG HRd HK e1 e2 e3 e4
        generalize ((w5.setCell ⟨K, 0, none⟩ (.int .i64 ((X : Int) + 1 + (a : Int)))).setCell ⟨K, 1, none⟩ (.int .i64 ((Y : Int) + 1 + (b : Int)))) = w6 at hK6 hw6 hr6 G6 ⊢
        have d7 : w6.cell? ⟨K, 0, none⟩ = some (.int .i64 ((X : Int) + 1 + (a : Int))) := by rw [Lib.cell_of_heap hK6]; rfl
        have d8 : w6.cell? ⟨K, 1, none⟩ = some (.int .i64 ((Y : Int) + 1 + (b : Int))) := by rw [Lib.cell_of_heap hK6]; rfl
        have hKl6 : K < w6.heap.size := by
          rcases Nat.lt_or_ge K w6.heap.size with h' | h'
          · exact h'
          · simp [Array.getElem?_eq_none h'] at hK6
        go_wp2_with (at_builtin; (refine wpList_append_own _ rfl _ _ 25 rfl (K + 1) 64 i0 (.agg #[.int .i64 0, .int .i64 0]) 2 16 Tryd.underlying25 hi hz0 hz1 hz2 rfl (by decide) _ _ _ rfl (hw6.2.alloc _) ⟨w6.heap.size, 0, none⟩ 1 1 [.int .i64 ((X : Int) + 1 + (a : Int)), .int .i64 ((Y : Int) + 1 + (b : Int))] rfl rfl ?c1 ?c2 ?c3 ?c4 ?c5 ?_))
        case c1 => exact cell_new2 _ _ _ _
        case c2 => exact one_PP _ _
        case c3 => unfold maxLen; omega
        case c4 => omega
        case c5 => simp; omega
        intro v' w7 hown' hg7 _
        have hw7 : Own PP 2 w7 (K + 1) 64 v' (k + 1 + 1) (l ++ [((X : Int) + 1 + (a : Int), (Y : Int) + 1 + (b : Int))]) := Own.snoc hw6.1 hown'
        have hr7 := (hr6.alloc (.cells #[.int .i64 ((X : Int) + 1 + (a : Int)), .int .i64 ((Y : Int) + 1 + (b : Int))] 64)).grown hg7 (fun j hj => by have := (hw6.2.lt j hj).1; omega)
        have G7 := grown_step (grown_alloc G6 (.cells #[.int .i64 ((X : Int) + 1 + (a : Int)), .int .i64 ((Y : Int) + 1 + (b : Int))] 64)) hg7 (fun j hj => .inr (by have := (hw6.2.lt j hj).1; omega))
        have hK7 := (hg7.block K (by simp; omega) (fun e => by have := (hw6.2.lt _ e.symm).1; omega)).trans ((Lib.alloc_old w6 _ K hKl6).trans hK6)
        obtain ⟨A7, c7, rfl, _, _⟩ := hw7.form
        clear hw6 hown' hg7 hr6 G6 hK6 d7 d8
        go_wp2
        go_roundw
        case rel => exact ⟨k + 1, q + 1 + 1, X + 1 + a, Y + 1 + b, _, by omega, by go_num, by omega, by omega, by
            rw [show ((X + 1 + a : Nat) : Int) = (X : Int) + 1 + (a : Int) by omega, show ((Y + 1 + b : Nat) : Int) = (Y : Int) + 1 + (b : Int) by omega]; exact hK7, hw7, hr7, by omega, G7⟩
        case measure => simp [intOf]; omega
    · obtain rfl : k = N := by omega
      clear hlt hK
      obtain ⟨A, c, rfl, _, _⟩ := hw.form
      obtain ⟨G0, c0, e0, hG0, hG1, hkc⟩ := hw.head (by omega)
      injection e0 with e0 _ e2
      subst e0; subst e2
      go_wp2_with fail
      refine (pick_any g q 40 _ hr (by omega) (by omega)).mono ?_
      rintro e w4 ⟨x, rfl, hx, hr4, hg4⟩
      have hw4 := hw.kept hg4 (by intro j hj; injection hj with hj; omega)
      have G4 := grown_trans' G hg4
      clear hw hr G hg4
      obtain ⟨j, rfl⟩ : ∃ j, k = j + 1 := ⟨k - 1, by omega⟩
      have hjl : j + 1 < l.length := by rw [hw4.1]; omega
      obtain ⟨a, b, hab⟩ : ∃ a b, l[j]? = some (a, b) := ⟨l[j].1, l[j].2, List.getElem?_eq_getElem (by omega)⟩
      obtain ⟨a', b', hab'⟩ : ∃ a b, l[j + 1]? = some (a, b) := ⟨l[j + 1].1, l[j + 1].2, List.getElem?_eq_getElem hjl⟩
      by_cases hx0 : x = 0
      · subst hx0
        obtain ⟨f0, f1⟩ := hw4.pairAt hab
        obtain ⟨f2, f3⟩ := hw4.pairAt hab'
        have z1 := hw4.2.frozenAt ((j + 1) * 2 + 1)
        have HS := Lib.hid ((hw4.set1 hab' b).less (show w.heap.size ≤ K + 1 by omega))
        have HR := Lib.hid (hr4.grown (grown_setCell (p := ⟨G0, (j + 1) * 2 + 1, none⟩) (grown_refl _ (some G0)) (.inl rfl) (.int .i64 b)) (by intro k hk; injection hk with hk; omega))
        have HG := Lib.hid (grown_setCell (p := ⟨G0, (j + 1) * 2 + 1, none⟩) G4 (.inr (show w.heap.size ≤ G0 by omega)) (.int .i64 b))
        clear hw4 hr4 G4 hab hab' hjl
        go_wp2
        go_ret
        exact ⟨_, _, _, _, _, rfl, HS.out, by omega, HR.out, by omega, HG.out⟩
      · by_cases hx1 : x = 1
        · subst hx1
          have d0 : ((1 : Int) == 0) = false := rfl
          obtain ⟨q1, hq1⟩ := hw4.first1 (by omega)
          have HS := Lib.hid (hq1.less (show w.heap.size ≤ K + 1 by omega))
          have HR := Lib.hid hr4
          have HG := Lib.hid G4
          have i1 : 1 ≤ c := by omega
          have i2 : (1 : Int) ≤ (c : Int) := by omega
          clear hw4 hr4 G4 hab hab' hjl hq1
          go_wp2
          go_ret
          exact ⟨_, _, _, _, _, rfl, HS.out, by omega, HR.out, by omega, HG.out⟩
        · by_cases hx2 : x = 2
          · subst hx2
            have d0 : ((2 : Int) == 0) = false := rfl
            have d1 : ((2 : Int) == 1) = false := rfl
            obtain ⟨f0, f1⟩ := hw4.pairAt hab'
            have z1 := hw4.2.frozenAt ((j + 1) * 2)
            have HS := Lib.hid ((hw4.set0 hab' 30001).less (show w.heap.size ≤ K + 1 by omega))
            have HR := Lib.hid (hr4.grown (grown_setCell (p := ⟨G0, (j + 1) * 2, none⟩) (grown_refl _ (some G0)) (.inl rfl) (.int .i64 30001)) (by intro k hk; injection hk with hk; omega))
            have HG := Lib.hid (grown_setCell (p := ⟨G0, (j + 1) * 2, none⟩) G4 (.inr (show w.heap.size ≤ G0 by omega)) (.int .i64 30001))
            clear hw4 hr4 G4 hab hab' hjl
            go_wp2
            go_ret
            exact ⟨_, _, _, _, _, rfl, HS.out, by omega, HR.out, by omega, HG.out⟩
          · have d0 : ((x : Int) == 0) = false := by simp; omega
            have d1 : ((x : Int) == 1) = false := by simp; omega
            have d2 : ((x : Int) == 2) = false := by simp; omega
            have HS := Lib.hid (hw4.less (show w.heap.size ≤ K + 1 by omega))
            clear hab hab' hjl hw4
            go_wp2
            go_ret
            exact ⟨_, _, _, l, _, rfl, HS.out, by omega, hr4, by omega, G4⟩

set_option maxHeartbeats 1000000 in
theorem DrawCurveText_any (A : Option Addr) (n c : Nat) (l : List Int) (w : World) (h : Arr BB 1 w w.heap.size A n l) (hby : ∀ x ∈ l, 0 ≤ x ∧ x ≤ 255) (hc : n ≤ c) :
    Calls Tryd.prog 21 #[.slice A n c] w (DrawnTop PP 2 64 w 6) := by
  have C := Lib.hid (l6Open_any A n c l w h hby hc)
  clear hby h
  go_enter Tryd.func21, Tryd.ntmps21
  go_wp2_with fail
  refine C.out.mono ?_
  rintro e w1 ⟨rfl, hr, hb, hs⟩
  go_wp2_with fail
  refine (l91Curve_any _ 0 w1 hr (by omega)).mono ?_
  rintro e w2 ⟨A2, n2, c2, l2, p2, rfl, ho, hn, hr2, hp2, hg⟩
  have hb2 := hb.grown hg (by omega) (by intro k hk; simp at hk; omega)
  clear hg hr hb
  go_wp2
  go_ret
  exact ⟨A2, n2, c2, l2, rfl, ho.less (by omega), hn, hb2⟩
end Go.Proofs.YtjbdoohpljffnaaDoor
