/-
  The reference's draw of a core, with bounds on its numbers.
-/
import Derived.Test.YtefadlbfkhndfaaGreatDoorGE
import Derived.Deep.RegionWith
namespace Go.Proofs.YtefadlbfkhndfaaGreatDoor
open Go.RowKit
set_option linter.unusedSimpArgs false
set_option linter.unusedVariables false

def Posi (l : List (Int × Int)) : Prop := ∀ p ∈ l, (0 ≤ p.1 ∧ p.1 ≤ 1000000) ∧ 0 ≤ p.2 ∧ p.2 ≤ 1000000
theorem posi_nil : Posi [] := fun p hp => by cases hp
theorem Posi.snoc {l : List (Int × Int)} {x y : Int} (h : Posi l) (hx : 0 ≤ x ∧ x ≤ 1000000) (hy : 0 ≤ y ∧ y ≤ 1000000) : Posi (l ++ [(x, y)]) := fun p hp => by
  rcases List.mem_append.1 hp with hp | hp
  · exact h p hp
  · rw [List.mem_singleton.1 hp]; exact ⟨hx, hy⟩
theorem Posi.set {l : List (Int × Int)} {k : Nat} {o : Int × Int} (h : Posi l) (hk : l[k]? = some o) {x : Int} (hx : 0 ≤ x ∧ x ≤ 1000000) : Posi (l.set k (o.1, x)) := fun p hp => by
  rcases List.mem_or_eq_of_mem_set hp with hp | rfl
  · exact h p hp
  · exact ⟨(h o (List.mem_of_getElem? hk)).1, hx⟩
def DrawnCoreP (w : World) (g : Nat) (TR : TypeId) (p : Nat) (e : Ending) (w' : World) : Prop :=
  ∃ (A : Option Addr) (n c : Nat) (l : List (Int × Int)) (p' : Nat), e = .returned (.slice A n c) ∧ Own PP 2 w' w.heap.size 69 (.slice A n c) n l ∧ n ≤ 10 ∧ Rd w' g TR p' ∧ p' ≤ p + 1000 ∧ w.grownBy w' (some g) ∧ Hid (Posi l)

set_option maxHeartbeats 2000000 in
theorem l91CoreP_any (g p : Nat) (w : World) (h : Rd w g 104 p) (hp : p ≤ 1000000) :
    Calls Tryz.prog 50 #[.pointer (some ⟨g, 0, none⟩)] w (DrawnCoreP w g 104 p) := by
  obtain ⟨i0, hi, hz0, hz1, hz2⟩ := info_parts infoPiece
  have hg := h.lt
  go_enter Tryz.func50, Tryz.ntmps50
  go_wp2_with fail
  have h1 := h.alloc (.cells #[] 69)
  refine (pick_any g p 5 _ h1 (by omega) (by omega)).mono ?_
  rintro e w1 ⟨d0, rfl, hd0, hr1, hg1⟩
  have hO : Own PP 2 w1 w.heap.size 69 (.slice (some ⟨w.heap.size, 0, none⟩) 0 0) 0 [] := (Own.made PP 2 w w.heap.size _ (Nat.le_refl _)).kept hg1 (by intro k hk; simp at hk; omega)
  have G1 : w.grownBy w1 (some g) := grown_trans' (World.grownBy_alloc w _ _) hg1
  have hd05 : d0 < 5 := by omega
  clear h1 hg1 hd0
  go_wp2_with fail
  refine (pick_any g (p + 1) 6 _ hr1 (by omega) (by omega)).mono ?_
  rintro e w2 ⟨n, rfl, hn, hr2, hg2⟩
  have hO2 := hO.kept hg2 (by intro k hk; simp at hk; omega)
  have G2 := grown_trans' G1 hg2
  have hn6 : n < 6 := by omega
  clear hO hr1 hg2 G1 hn
  go_wp2_with fail
  go_loopw [3, 4, 6] (fun v d i wr => ∃ (k q : Nat) (D : Int) (l : List (Int × Int)), k ≤ n ∧ i = .int .i64 k ∧ d = .int .i64 D ∧ 0 ≤ D ∧ D ≤ 50 + 100 * k ∧ Own PP 2 wr w.heap.size 69 v k l ∧ Rd wr g 104 q ∧ q ≤ p + 2 + 2 * k ∧ w.grownBy wr (some g) ∧ Hid (Posi l)) (fun _ _ i _ => n - (intOf i).toNat)
  case atStart => exact ⟨0, p + 1 + 1, (d0 : Int) * 10, [], Nat.zero_le _, rfl, rfl, by omega, by omega, hO2, hr2, by omega, G2, Lib.hid posi_nil⟩
  case round =>
    obtain ⟨k, q, D, l, hk, rfl, rfl, hD0, hD1, hw, hr, hq, G, hSm⟩ := hrel
    by_cases hlt : k < n
    · obtain ⟨A0, c0, rfl, _, _⟩ := hw.form
      go_wp2_with fail
      refine (pick_any g q 60 _ hr (by omega) (by omega)).mono ?_
      rintro e w3 ⟨y, rfl, hy, hr3, hg3⟩
      have hw3 := hw.kept hg3 (by intro k hk; simp at hk; omega)
      have G3 := grown_trans' G hg3
      have hy60 : y < 60 := by omega
      have hSm2 := Lib.hid (hSm.out.snoc (x := D) (y := D + 1 + (y : Int)) (by omega) (by omega))
      clear hw hg3 hr G hy
      go_wp2_with (at_builtin; (refine wpList_append_own _ rfl _ _ 37 rfl w.heap.size 69 i0 (.agg #[.int .i64 0, .int .i64 0]) 2 16 Tryz.underlying37 hi hz0 hz1 hz2 rfl (by decide) _ _ _ rfl ((hw3.2.alloc _).alloc _) ⟨w3.heap.size + 1, 0, none⟩ 1 1 [.int .i64 D, .int .i64 (D + 1 + (y : Int))] rfl rfl ?c1 ?c2 ?c3 ?c4 ?c5 ?_))
      case c1 =>
        have := cell_new2 (w3.alloc (.cells #[.int .i64 D, .int .i64 (D + 1 + (y : Int))] 69)) (.int .i64 D) (.int .i64 (D + 1 + (y : Int))) 69
        simpa using this
      case c2 => exact one_PP _ _
      case c3 => unfold maxLen; omega
      case c4 => omega
      case c5 => have := G3.size; simp; omega
      intro v' w4 hown' hg4 _
      have hw4 : Own PP 2 w4 w.heap.size 69 v' (k + 1) (l ++ [(D, D + 1 + (y : Int))]) := Own.snoc hw3.1 hown'
      have hr4 := ((hr3.alloc (.cells #[.int .i64 D, .int .i64 (D + 1 + (y : Int))] 69)).alloc (.cells #[.int .i64 D, .int .i64 (D + 1 + (y : Int))] 69)).grown hg4 (fun j hj => by have := (hw3.2.lt j hj).1; omega)
      have G4 := grown_step (grown_alloc (grown_alloc G3 (.cells #[.int .i64 D, .int .i64 (D + 1 + (y : Int))] 69)) (.cells #[.int .i64 D, .int .i64 (D + 1 + (y : Int))] 69)) hg4 (fun j hj => .inr (hw3.2.lt j hj).1)
      have hcb : w4.cell? ⟨w3.heap.size, 1, none⟩ = some (.int .i64 (D + 1 + (y : Int))) := by
        refine hg4.cell (v := .int .i64 (D + 1 + (y : Int))) ?_ (fun e => by have := (hw3.2.lt _ e.symm).2; simp at this)
        rw [World.cell?_alloc_lt _ _ ⟨w3.heap.size, 1, none⟩ (by simp)]
        exact (cell_of_row _ _ 1 _ _ _ (heap_alloc_new w3 _)).trans rfl
      have hgb := hr3.lt
      obtain ⟨A4, c4, rfl, _, _⟩ := hw4.form
      generalize w3.heap.size = b7 at hcb hgb ⊢
      clear hw3 hown' hg4 hr3 G3
      have hgb' : ¬ b7 = g := by omega
      have HW4 := Lib.hid hw4
      have HR4 := Lib.hid hr4
      have HG4 := Lib.hid G4
      clear hw4 hr4 G4
      go_wp2_with fail
      go_region_with (go_at_call 52; refine (pick_any g (q + 1) 30 _ (HR4.out.below (Below.refl _ _).drew (Nat.lt_succ_self _)) (by omega) (by omega)).mono ?_; rintro e w5 ⟨z, rfl, hz, hr5, hg5⟩; have hcb5 := hg5.cell (a := ⟨b7, 1, none⟩) hcb (by intro e; injection e with e; exact hgb' e))
      all_goals
        go_wp2
        go_roundw
        case rel => exact ⟨k + 1, q + 1 + 1, _, _, by omega, by go_num, rfl, by split <;> omega, by split <;> omega, (HW4.out.drew).kept hg5 (by intro j hj; injection hj with hj; omega), hr5, by omega, grown_trans' (grown_drew HG4.out) hg5, hSm2⟩
        case measure => simp [intOf]; omega
    · obtain rfl : k = n := by omega
      clear hlt
      obtain ⟨A, c, rfl, _, _⟩ := hw.form
      by_cases h0 : k = 0
      · subst h0
        go_wp2
        go_ret
        exact ⟨A, 0, c, l, q, rfl, hw, by omega, hr, by omega, G, hSm⟩
      · obtain ⟨G0, c0, e0, hG0, hG1, hkc⟩ := hw.head (by omega)
        injection e0 with e0 _ e2
        subst e0; subst e2
        have hk0 : 0 < k := by omega
        go_wp2_with fail
        refine (pick_any g q 40 _ hr (by omega) (by omega)).mono ?_
        rintro e w3 ⟨x, rfl, hx, hr3, hg3⟩
        have hw3 := hw.kept hg3 (by intro k hk; simp at hk; omega)
        have G3 := grown_trans' G hg3
        clear hw hr G hg3
        by_cases hx0 : x = 0
        · subst hx0
          obtain ⟨j, rfl⟩ : ∃ j, k = j + 1 := ⟨k - 1, by omega⟩
          have hjl : j < l.length := by rw [hw3.1]; omega
          obtain ⟨a, b, hab⟩ : ∃ a b, l[j]? = some (a, b) := ⟨l[j].1, l[j].2, List.getElem?_eq_getElem hjl⟩
          obtain ⟨f0, f1⟩ := hw3.pairAt hab
          have z1 := hw3.2.frozenAt (j * 2 + 1)
          have hSm3 := Lib.hid (hSm.out.set hab (x := a) (by have := hSm.out _ (List.mem_of_getElem? hab); omega))
          have HS := Lib.hid (hw3.set1 hab a)
          have HR := Lib.hid (hr3.grown (grown_setCell (p := ⟨G0, j * 2 + 1, none⟩) (grown_refl _ (some G0)) (.inl rfl) (.int .i64 a)) (by intro k hk; simp at hk; omega))
          have HG := Lib.hid (grown_setCell (p := ⟨G0, j * 2 + 1, none⟩) G3 (.inr hG0) (.int .i64 a))
          clear hw3 hr3 G3 hab hjl
          go_wp2
          go_ret
          exact ⟨_, _, _, _, _, rfl, HS.out, by omega, HR.out, by omega, HG.out, hSm3⟩
        · by_cases hx1 : x = 1
          · subst hx1
            have d0 : ((1 : Int) == 0) = false := rfl
            obtain ⟨j, rfl⟩ : ∃ j, k = j + 1 := ⟨k - 1, by omega⟩
            have hjl : j < l.length := by rw [hw3.1]; omega
            obtain ⟨a, b, hab⟩ : ∃ a b, l[j]? = some (a, b) := ⟨l[j].1, l[j].2, List.getElem?_eq_getElem hjl⟩
            obtain ⟨f0, f1⟩ := hw3.pairAt hab
            have z1 := hw3.2.frozenAt (j * 2 + 1)
            have hSm3 := Lib.hid (hSm.out.set hab (x := 30001) (by omega))
            have HS := Lib.hid (hw3.set1 hab 30001)
            have HR := Lib.hid (hr3.grown (grown_setCell (p := ⟨G0, j * 2 + 1, none⟩) (grown_refl _ (some G0)) (.inl rfl) (.int .i64 30001)) (by intro k hk; simp at hk; omega))
            have HG := Lib.hid (grown_setCell (p := ⟨G0, j * 2 + 1, none⟩) G3 (.inr hG0) (.int .i64 30001))
            clear hw3 hr3 G3 hab hjl
            go_wp2
            go_ret
            exact ⟨_, _, _, _, _, rfl, HS.out, by omega, HR.out, by omega, HG.out, hSm3⟩
          · by_cases hx2 : x = 2
            · subst hx2
              have d0 : ((2 : Int) == 0) = false := rfl
              have d1 : ((2 : Int) == 1) = false := rfl
              obtain ⟨a, b, hab, f0, f1, _, _⟩ := hw3.first hk0
              have hab' := Lib.hid hab
              have hSm3 := Lib.hid (hSm.out.snoc (x := a) (y := b) (by have := hSm.out _ (List.mem_of_getElem? hab); omega) (by have := hSm.out _ (List.mem_of_getElem? hab); omega))
              have hk0' : (0 : Int) < (k : Int) := by omega
              clear hab
              go_wp2_with (at_builtin; (refine wpList_append_own _ rfl _ _ 37 rfl w.heap.size 69 i0 (.agg #[.int .i64 0, .int .i64 0]) 2 16 Tryz.underlying37 hi hz0 hz1 hz2 rfl (by decide) _ _ _ rfl (hw3.2.alloc _) ⟨w3.heap.size, 0, none⟩ 1 1 [.int .i64 a, .int .i64 b] rfl rfl ?d1 ?d2 ?d3 ?d4 ?d5 ?_))
              case d1 => exact cell_new2 _ _ _ _
              case d2 => exact one_PP _ _
              case d3 => unfold maxLen; omega
              case d4 => omega
              case d5 => have := G3.size; simp; omega
              intro v' w4 hown' hg4 _
              have hw4 : Own PP 2 w4 w.heap.size 69 v' (k + 1) (l ++ [(a, b)]) := Own.snoc hw3.1 hown'
              have hr4 := (hr3.alloc (.cells #[.int .i64 a, .int .i64 b] 69)).grown hg4 (fun j hj => by have := (hw3.2.lt j hj).1; omega)
              have G4 := grown_step (grown_alloc G3 (.cells #[.int .i64 a, .int .i64 b] 69)) hg4 (fun j hj => .inr (hw3.2.lt j hj).1)
              obtain ⟨A4, c4, rfl, _, _⟩ := hw4.form
              clear hw3 hown' hg4 hr3 G3
              go_wp2
              go_ret
              exact ⟨_, _, _, _, _, rfl, hw4, by omega, hr4, by omega, G4, hSm3⟩
            · have d0 : ((x : Int) == 0) = false := by simp; omega
              have d1 : ((x : Int) == 1) = false := by simp; omega
              have d2 : ((x : Int) == 2) = false := by simp; omega
              go_wp2
              go_ret
              exact ⟨_, _, _, l, _, rfl, hw3, by omega, hr3, by omega, G3, hSm⟩

end Go.Proofs.YtefadlbfkhndfaaGreatDoor
