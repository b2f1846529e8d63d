/-
  Drawn layers; DrawLayersText.
-/
import Derived.Test.YtjbdoohpljffnaaDoorDraw
import Derived.Test.YtjbdoohpljffnaaDoorPairLayer
import Derived.Deep.RegionWith
namespace Go.Proofs.YtjbdoohpljffnaaDoor
open Go.RowKit
set_option linter.unusedSimpArgs false
set_option linter.unusedVariables false

theorem set_flatMap_LL0 : ∀ (L : List (Int × Bool)) (k : Nat) (x : Int) (o : Int × Bool), L[k]? = some o → (L.flatMap LL).set (k * 2) (.int .i64 x) = (L.set k (x, o.2)).flatMap LL := by
  intro L
  induction L with
  | nil => intro k x y h; simp at h
  | cons o L ih =>
    intro k x y h
    cases k with
    | zero => simp at h; subst h; simp [LL]
    | succ k =>
      rw [show (k + 1) * 2 = k * 2 + 2 by omega]
      simp only [List.flatMap_cons, LL, List.cons_append, List.nil_append, List.set_cons_succ, List.set_cons_succ]
      rw [ih k x y (by simpa using h)]
theorem Own.setLay0 {w : World} {base g n c k : Nat} {T : TypeId} {L : List (Int × Bool)} {o : Int × Bool} (h : Own LL 2 w base T (.slice (some ⟨g, 0, none⟩) n c) n L) (hk : L[k]? = some o) (x : Int) :
    Own LL 2 (w.setCell ⟨g, k * 2, none⟩ (.int .i64 x)) base T (.slice (some ⟨g, 0, none⟩) n c) n (L.set k (x, o.2)) := by
  have h1 := (h.2.stored (k * 2) (.int .i64 x)).1
  rw [set_flatMap_LL0 L k x o hk] at h1
  exact ⟨by rw [List.length_set]; exact h.1, h1⟩

set_option maxHeartbeats 2000000 in
theorem l92Layers_any (g p : Nat) (w : World) (h : Rd w g 109 p) (hp : p ≤ 1000000) :
    Calls Tryd.prog 58 #[.pointer (some ⟨g, 0, none⟩)] w (DrawnRow LL 2 55 w g 109 p 1000 9) := by
  obtain ⟨i0, hi, hz0, hz1, hz2⟩ := info_parts infoLayer
  have hg := h.lt
  go_enter Tryd.func58, Tryd.ntmps58
  go_wp2_with fail
  have h1 := h.alloc (.cells #[] 55)
  refine (pick_any g p 12 _ h1 (by omega) (by omega)).mono ?_
  rintro e w1 ⟨d0, rfl, hd0, hr1, hg1⟩
  have hO : Own LL 2 w1 w.heap.size 55 (.slice (some ⟨w.heap.size, 0, none⟩) 0 0) 0 [] := (Own.made LL 2 w w.heap.size _ (Nat.le_refl _)).kept hg1 (by intro k hk; simp at hk; omega)
  have G1 : w.grownBy w1 (some g) := grown_trans' (World.grownBy_alloc w _ _) hg1
  have hd05 : d0 < 12 := by omega
  clear h1 hg1 hd0
  go_wp2_with fail
  refine (pick_any g (p + 1) 9 _ hr1 (by omega) (by omega)).mono ?_
  rintro e w2 ⟨n, rfl, hn, hr2, hg2⟩
  have hO2 := hO.kept hg2 (by intro k hk; simp at hk; omega)
  have G2 := grown_trans' G1 hg2
  have hn6 : n < 9 := by omega
  clear hO hr1 hg2 G1 hn
  go_wp2_with fail
  go_loopw [3, 4, 6] (fun v d i wr => ∃ (k q : Nat) (D : Int) (l : List (Int × Bool)), k ≤ n ∧ i = .int .i64 k ∧ d = .int .i64 D ∧ 0 ≤ D ∧ D ≤ 12 + 21 * k ∧ Own LL 2 wr w.heap.size 55 v k l ∧ Rd wr g 109 q ∧ q ≤ p + 2 + 2 * k ∧ w.grownBy wr (some g)) (fun _ _ i _ => n - (intOf i).toNat)
  case atStart => exact ⟨0, p + 1 + 1, (d0 : Int), [], Nat.zero_le _, rfl, rfl, by omega, by omega, hO2, hr2, by omega, G2⟩
  case round =>
    obtain ⟨k, q, D, l, hk, rfl, rfl, hD0, hD1, hw, hr, hq, G⟩ := hrel
    by_cases hlt : k < n
    · obtain ⟨A0, c0, rfl, _, _⟩ := hw.form
      go_wp2_with fail
      refine (pick_any g q 3 _ hr (by omega) (by omega)).mono ?_
      rintro e w3 ⟨y, rfl, hy, hr3, hg3⟩
      have hw3 := hw.kept hg3 (by intro k hk; simp at hk; omega)
      have G3 := grown_trans' G hg3
      obtain ⟨s, hs⟩ : ∃ s, decide (0 < (y : Int)) = s := ⟨_, rfl⟩
      have hs' : decide (0 < y) = s := by rw [← hs]; simp
      clear hw hg3 hr G hy
      go_wp2_with (at_builtin; (refine wpList_append_own _ rfl _ _ 34 rfl w.heap.size 55 i0 (.agg #[.int .i64 0, .bool false]) 2 16 Tryd.underlying34 hi hz0 hz1 hz2 rfl (by decide) _ _ _ rfl (hw3.2.alloc _) ⟨w3.heap.size, 0, none⟩ 1 1 [.int .i64 D, .bool s] rfl rfl ?c1 ?c2 ?c3 ?c4 ?c5 ?_))
      case c1 => exact cell_new2 _ _ _ _
      case c2 => exact one_LL _ _
      case c3 => unfold maxLen; omega
      case c4 => omega
      case c5 => have := G3.size; simp; omega
      intro v' w4 hown' hg4 _
      have hw4 : Own LL 2 w4 w.heap.size 55 v' (k + 1) (l ++ [(D, s)]) := Own.snoc hw3.1 hown'
      have hr4 := (hr3.alloc (.cells #[.int .i64 D, .bool s] 55)).grown hg4 (fun j hj => by have := (hw3.2.lt j hj).1; omega)
      have G4 := grown_step (grown_alloc G3 (.cells #[.int .i64 D, .bool s] 55)) hg4 (fun j hj => .inr (hw3.2.lt j hj).1)
      obtain ⟨A4, c4, rfl, _, _⟩ := hw4.form
      clear hw3 hown' hg4 hr3 G3 hs hs'
      go_wp2_with fail
      refine (pick_any g (q + 1) 20 _ hr4 (by omega) (by omega)).mono ?_
      rintro e w5 ⟨z, rfl, hz, hr5, hg5⟩
      have hw5 := hw4.kept hg5 (by intro j hj; injection hj with hj; omega)
      have G5 := grown_trans' G4 hg5
      have hz20 : z < 20 := by omega
      clear hw4 hr4 G4 hg5 hz
      go_wp2
      go_roundw
      case rel => exact ⟨k + 1, q + 1 + 1, _, _, by omega, by go_num, rfl, by omega, by omega, hw5, hr5, by omega, G5⟩
      case measure => simp [intOf]; omega
    · obtain rfl : k = n := by omega
      clear hlt
      obtain ⟨A, c, rfl, _, _⟩ := hw.form
      by_cases h0 : k = 0
      · subst h0
        go_wp2
        go_ret
        exact ⟨A, 0, c, l, q, rfl, hw, by omega, hr, by omega, G⟩
      · obtain ⟨G0, c0, e0, hG0, hG1, hkc⟩ := hw.head (by omega)
        injection e0 with e0 _ e2
        subst e0; subst e2
        have hk0 : 0 < k := by omega
        go_wp2_with fail
        refine (pick_any g q 40 _ hr (by omega) (by omega)).mono ?_
        rintro e w3 ⟨x, rfl, hx, hr3, hg3⟩
        have hw3 := hw.kept hg3 (by intro k hk; simp at hk; omega)
        have G3 := grown_trans' G hg3
        clear hw hr G hg3
        by_cases hx0 : x = 0
        · subst hx0
          obtain ⟨j, rfl⟩ : ∃ j, k = j + 1 := ⟨k - 1, by omega⟩
          have hjl : j < l.length := by rw [hw3.1]; omega
          obtain ⟨a, b, hab⟩ : ∃ a b, l[j]? = some (a, b) := ⟨l[j].1, l[j].2, List.getElem?_eq_getElem hjl⟩
          obtain ⟨f0, f1⟩ := hw3.layAt hab
          clear hab hjl
          go_wp2_with (at_builtin; (refine wpList_append_own _ rfl _ _ 34 rfl w.heap.size 55 i0 (.agg #[.int .i64 0, .bool false]) 2 16 Tryd.underlying34 hi hz0 hz1 hz2 rfl (by decide) _ _ _ rfl (hw3.2.alloc _) ⟨w3.heap.size, 0, none⟩ 1 1 [.int .i64 a, .bool b] rfl rfl ?d1 ?d2 ?d3 ?d4 ?d5 ?_))
          case d1 => exact cell_new2 _ _ _ _
          case d2 => exact one_LL _ _
          case d3 => unfold maxLen; omega
          case d4 => omega
          case d5 => have := G3.size; simp; omega
          intro v' w4 hown' hg4 _
          have hw4 : Own LL 2 w4 w.heap.size 55 v' (j + 1 + 1) (l ++ [(a, b)]) := Own.snoc hw3.1 hown'
          have hr4 := (hr3.alloc (.cells #[.int .i64 a, .bool b] 55)).grown hg4 (fun j hj => by have := (hw3.2.lt j hj).1; omega)
          have G4 := grown_step (grown_alloc G3 (.cells #[.int .i64 a, .bool b] 55)) hg4 (fun j hj => .inr (hw3.2.lt j hj).1)
          obtain ⟨A4, c4, rfl, _, _⟩ := hw4.form
          clear hw3 hown' hg4 hr3 G3 f0 f1
          go_wp2
          go_ret
          exact ⟨_, _, _, _, _, rfl, hw4, by omega, hr4, by omega, G4⟩
        · by_cases hx1 : x = 1
          · subst hx1
            have d0 : ((1 : Int) == 0) = false := rfl
            obtain ⟨j, rfl⟩ : ∃ j, k = j + 1 := ⟨k - 1, by omega⟩
            have hjl : j < l.length := by rw [hw3.1]; omega
            obtain ⟨a, b, hab⟩ : ∃ a b, l[j]? = some (a, b) := ⟨l[j].1, l[j].2, List.getElem?_eq_getElem hjl⟩
            obtain ⟨f0, f1⟩ := hw3.layAt hab
            have z1 := hw3.2.frozenAt (j * 2)
            have HS := Lib.hid (hw3.setLay0 hab 30001)
            have HR := Lib.hid (hr3.grown (grown_setCell (p := ⟨G0, j * 2, none⟩) (grown_refl _ (some G0)) (.inl rfl) (.int .i64 30001)) (by intro k hk; simp at hk; omega))
            have HG := Lib.hid (grown_setCell (p := ⟨G0, j * 2, none⟩) G3 (.inr hG0) (.int .i64 30001))
            clear hw3 hr3 G3 hab hjl
            go_wp2
            go_ret
            exact ⟨_, _, _, _, _, rfl, HS.out, by omega, HR.out, by omega, HG.out⟩
          · have d0 : ((x : Int) == 0) = false := by simp; omega
            have d1 : ((x : Int) == 1) = false := by simp; omega
            go_wp2
            go_ret
            exact ⟨_, _, _, l, _, rfl, hw3, by omega, hr3, by omega, G3⟩

set_option maxHeartbeats 1000000 in
theorem DrawLayersText_any (A : Option Addr) (n c : Nat) (l : List Int) (w : World) (h : Arr BB 1 w w.heap.size A n l) (hby : ∀ x ∈ l, 0 ≤ x ∧ x ≤ 255) (hc : n ≤ c) :
    Calls Tryd.prog 23 #[.slice A n c] w (DrawnTop LL 2 55 w 9) := by
  have C := Lib.hid (l6Open_any A n c l w h hby hc)
  clear hby h
  go_enter Tryd.func23, Tryd.ntmps23
  go_wp2_with fail
  refine C.out.mono ?_
  rintro e w1 ⟨rfl, hr, hb, hs⟩
  go_wp2_with fail
  refine (l92Layers_any _ 0 w1 hr (by omega)).mono ?_
  rintro e w2 ⟨A2, n2, c2, l2, p2, rfl, ho, hn, hr2, hp2, hg⟩
  have hb2 := hb.grown hg (by omega) (by intro k hk; simp at hk; omega)
  clear hg hr hb
  go_wp2
  go_ret
  exact ⟨A2, n2, c2, l2, rfl, ho.less (by omega), hn, hb2⟩
end Go.Proofs.YtjbdoohpljffnaaDoor
