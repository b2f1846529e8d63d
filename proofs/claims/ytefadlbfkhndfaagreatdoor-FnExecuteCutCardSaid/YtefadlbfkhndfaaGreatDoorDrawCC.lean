/-
  Contract: DrawCoreCut.
-/
import Derived.Test.YtefadlbfkhndfaaGreatDoorDrawCoreB
import Derived.Deep.RegionWith
namespace Go.Proofs.YtefadlbfkhndfaaGreatDoor
open Go.RowKit
set_option linter.unusedSimpArgs false
set_option linter.unusedVariables false

/-- A core and a number, drawn, the reader further on. -/
def DrawnWithin (w : World) (g : Nat) (TR : TypeId) (p m : Nat) (e : Ending) (w' : World) : Prop :=
  ∃ (A : Option Addr) (n c : Nat) (l : List (Int × Int)) (x : Int) (p' : Nat), e = .returned (.tuple #[.slice A n c, .int .i64 x]) ∧ Own PP 2 w' w.heap.size 69 (.slice A n c) n l ∧ n ≤ 10 ∧ Rd w' g TR p' ∧ p' ≤ p + m ∧ w.grownBy w' (some g)

set_option maxRecDepth 100000 in
set_option maxHeartbeats 4000000 in
theorem l91Within_any (g p : Nat) (w : World) (h : Rd w g 104 p) (hp : p ≤ 1000000) :
    Calls Tryz.prog 62 #[.pointer (some ⟨g, 0, none⟩)] w (DrawnWithin w g 104 p 3000) := by
  go_enter Tryz.func62, Tryz.ntmps62
  go_wp2_with fail
  refine (l91CoreB_any g p w h (by omega)).mono ?_
  rintro e w1 ⟨A1, n1, c1, l1, p1, rfl, o1, hn1, hr1, hp1, hg1, hSm⟩
  have hgl := h.lt
  have hs1 := hg1.size
  clear h
  by_cases h0 : n1 = 0
  · subst h0
    go_wp2_with fail
    refine (pick_any g p1 200 _ hr1 (by omega) (by omega)).mono ?_
    rintro e w2 ⟨x, rfl, hx, hr2, hg2⟩
    have hx2 : x < 200 := by omega
    have o2 := o1.kept hg2 (by intro k hk; simp at hk; omega)
    have G2 := grown_trans' hg1 hg2
    clear o1 hr1 hg1 hg2
    go_wp2_with fail
    refine (pick_any g (p1 + 1) 10 _ hr2 (by omega) (by omega)).mono ?_
    rintro e w3 ⟨y, rfl, hy, hr3, hg3⟩
    have hy2 : y < 10 := by omega
    have o3 := o2.kept hg3 (by intro k hk; simp at hk; omega)
    have G3 := grown_trans' G2 hg3
    clear o2 hr2 hg3 G2
    go_wp2
    go_ret2
    exact ⟨_, _, _, _, _, _, rfl, o3, by omega, hr3, by omega, G3⟩
  · have f0 : ((n1 : Int) == 0) = false := by simp; omega
    go_wp2_with fail
    refine (pick_any g p1 6 _ hr1 (by omega) (by omega)).mono ?_
    rintro e w2 ⟨x, rfl, hx, hr2, hg2⟩
    have o2 := o1.kept hg2 (by intro k hk; simp at hk; omega)
    have G2 := grown_trans' hg1 hg2
    clear o1 hr1 hg1 hg2
    by_cases hx0 : x = 0
    · subst hx0
      go_wp2_with fail
      refine (pick_any g (p1 + 1) 200 _ hr2 (by omega) (by omega)).mono ?_
      rintro e w3 ⟨y, rfl, hy, hr3, hg3⟩
      have hy2 : y < 200 := by omega
      have o3 := o2.kept hg3 (by intro k hk; simp at hk; omega)
      have G3 := grown_trans' G2 hg3
      clear o2 hr2 hg3 G2
      go_wp2_with fail
      refine (pick_any g (p1 + 1 + 1) 10 _ hr3 (by omega) (by omega)).mono ?_
      rintro e w4 ⟨z, rfl, hz, hr4, hg4⟩
      have hz2 : z < 10 := by omega
      have o4 := o3.kept hg4 (by intro k hk; simp at hk; omega)
      have G4 := grown_trans' G3 hg4
      clear o3 hr3 hg4 G3
      go_wp2
      go_ret2
      exact ⟨_, _, _, _, _, _, rfl, o4, by omega, hr4, by omega, G4⟩
    · have d0 : ((x : Int) == 0) = false := by simp; omega
      obtain ⟨G0, c0, e0, hG0, hG1, hkc⟩ := o2.head (by omega)
      injection e0 with e0 _ e2
      subst e0; subst e2
      have hn0 : (0 : Int) < (n1 : Int) := by omega
      go_wp2_with fail
      refine (pick_any g (p1 + 1) n1 _ hr2 (by omega) (by omega)).mono ?_
      rintro e w3 ⟨y, rfl, hy, hr3, hg3⟩
      have hy2 : y < n1 := by omega
      have o3 := o2.kept hg3 (by intro k hk; simp at hk; omega)
      have G3 := grown_trans' G2 hg3
      have hs3 := G3.size
      clear o2 hr2 hg3 G2
      obtain ⟨a, b, hab⟩ : ∃ a b, l1[y]? = some (a, b) := ⟨_, _, List.getElem?_eq_getElem (by rw [o3.1]; exact hy2)⟩
      obtain ⟨q0, q1⟩ := o3.pairAt hab
      obtain ⟨⟨ha0, ha1⟩, hb0, hb1⟩ := hSm.out _ (List.mem_of_getElem? hab)
      simp only at ha0 ha1 hb0 hb1
      have iy : (y : Int) < (n1 : Int) := by omega
      have iy0 : (0 : Int) ≤ (y : Int) := by omega
      clear hab
      have d1 : (w3.alloc (.cells #[.int .i64 a, .int .i64 b] 69)).cell? ⟨w3.heap.size, 0, none⟩ = some (.int .i64 a) := (cell_of_row _ _ 0 _ _ _ (heap_alloc_new w3 _)).trans rfl
      have d2 : (w3.alloc (.cells #[.int .i64 a, .int .i64 b] 69)).cell? ⟨w3.heap.size, 1, none⟩ = some (.int .i64 b) := (cell_of_row _ _ 1 _ _ _ (heap_alloc_new w3 _)).trans rfl
      have hr4 := hr3.alloc (.cells #[.int .i64 a, .int .i64 b] 69)
      have o4 := o3.alloc (.cells #[.int .i64 a, .int .i64 b] 69)
      have G4 := grown_alloc G3 (.cells #[.int .i64 a, .int .i64 b] 69)
      have hPg : ¬ w3.heap.size = g := by have := hr3.lt; omega
      clear hr3 o3 G3
      go_wp2_with fail
      generalize w3.alloc (.cells #[.int .i64 a, .int .i64 b] 69) = w4 at d1 d2 hr4 o4 G4 ⊢
      generalize w3.heap.size = P at d1 d2 hPg ⊢
      have e1 : IntKind.i64.wrap (b - a) = b - a := IntWalk.i64_in _ ⟨by omega, by omega⟩
      have e2 : IntKind.i64.wrap (b - a + 1) = b - a + 1 := IntWalk.i64_in _ ⟨by omega, by omega⟩
      obtain ⟨M, hM, hMle⟩ : ∃ M : Int, (if 1 < b - a + 1 then b - a + 1 else 1) = M ∧ M ≤ 2147483648 := ⟨_, rfl, by split <;> omega⟩
      have HR4 := Lib.hid hr4
      have HO4 := Lib.hid o4
      have HG4 := Lib.hid G4
      clear hr4 o4 G4 q0 q1
      go_region_with (go_at_call 52; refine (pick_any g (p1 + 1 + 1) M _ (HR4.out.below (Below.refl _ _).drew (Nat.lt_succ_self _)) (by omega) hMle).mono ?_; rintro e w5 ⟨z, rfl, hz, hr5, hg5⟩; have k1 := hg5.cell (a := ⟨P, 0, none⟩) d1 (by intro e; injection e with e; exact hPg e); have k2 := hg5.cell (a := ⟨P, 1, none⟩) d2 (by intro e; injection e with e; exact hPg e))
      all_goals
        go_wp2
        go_ret2
        exact ⟨_, _, _, _, _, _, rfl, (HO4.out.drew).kept hg5 (by intro j hj; injection hj with hj; omega), hn1, hr5, by omega, grown_trans' (grown_drew HG4.out) hg5⟩

set_option maxRecDepth 100000 in
set_option maxHeartbeats 4000000 in
theorem DrawCoreCut_any (A : Option Addr) (n c : Nat) (l : List Int) (w : World) (h : Arr BB 1 w w.heap.size A n l) (hby : ∀ x ∈ l, 0 ≤ x ∧ x ≤ 255) (hc : n ≤ c) :
    Calls Tryz.prog 32 #[.slice A n c] w fun e w' => ∃ (A : Option Addr) (n c : Nat) (l : List (Int × Int)) (x : Int), e = .returned (.tuple #[.slice A n c, .int .i64 x]) ∧ Own PP 2 w' w.heap.size 69 (.slice A n c) n l ∧ n ≤ 20 ∧ Below w.heap.size w w' := by
  have C := Lib.hid (l6Open_any A n c l w h hby hc)
  obtain ⟨i0, hi, hz0, hz1, hz2⟩ := info_parts infoPiece
  clear hby h
  go_enter Tryz.func32, Tryz.ntmps32
  go_wp2_with fail
  refine C.out.mono ?_
  rintro e w1 ⟨rfl, hr, hb, hs⟩
  clear C
  go_wp2_with fail
  refine (l91Within_any _ 0 w1 hr (by omega)).mono ?_
  rintro e w2 ⟨A2, n2, c2, l2, x, p2, rfl, ho, hn, hr2, hp2, hg⟩
  have hb2 := hb.grown hg (by omega) (by intro k hk; simp at hk; omega)
  have hs2 := hg.size
  clear hg hr hb
  go_wp2_with fail
  refine (pick_any _ p2 20 _ hr2 (by omega) (by omega)).mono ?_
  rintro e w3 ⟨y, rfl, hy, hr3, hg3⟩
  have ho3 := ho.kept hg3 (by intro k hk; simp at hk; omega)
  have hb3 := hb2.grown hg3 hb2.size (by intro k hk; simp at hk; omega)
  clear hr2 hg3 ho hb2 hr3
  by_cases hy0 : y = 0
  · subst hy0
    have hM := Own.made PP 2 w3 w.heap.size 69 hb3.size
    have hbM := hb3.alloc hb3.size (.cells #[] 69)
    clear ho3 hb3
    go_wp2_with fail
    go_loopw [5, 7] (fun v i wr => ∃ (k : Nat) (l : List (Int × Int)), k ≤ 20 ∧ i = .int .i64 k ∧ Own PP 2 wr w.heap.size 69 v k l ∧ Below w.heap.size w wr) (fun _ i _ => 20 - (intOf i).toNat)
    case atStart => exact ⟨0, [], by omega, rfl, hM, hbM⟩
    case round =>
      obtain ⟨k, l, hk, rfl, hw, hb⟩ := hrel
      clear hM hbM
      obtain ⟨A4, c4, rfl, _, _⟩ := hw.form
      by_cases hlt : k < 20
      · have hl : (k : Int) < 20 := by omega
        have e1 : wrap64 (10 * (k : Int)) = 10 * (k : Int) := w64 ⟨by omega, by omega⟩
        have e2 : wrap64 (10 * (k : Int) + 10) = 10 * (k : Int) + 10 := w64 ⟨by omega, by omega⟩
        have hsz := hb.size
        go_wp2_with (at_builtin; refine wpList_append_own _ rfl _ _ 37 rfl w.heap.size 69 i0 (.agg #[.int .i64 0, .int .i64 0]) 2 16 Tryz.underlying37 hi hz0 hz1 hz2 rfl (by decide) _ _ _ rfl (hw.2.alloc _) ⟨wr.heap.size, 0, none⟩ 1 1 [.int .i64 (10 * (k : Int)), .int .i64 (10 * (k : Int) + 10)] rfl rfl ?d1 ?d2 ?d3 ?d4 ?d5 ?_)
        case d1 => exact cell_new2 _ _ _ _
        case d2 => exact one_PP _ _
        case d3 => unfold maxLen; omega
        case d4 => omega
        case d5 => simp; omega
        intro v' w5 hown' hg5 _
        have O5 : Own PP 2 w5 w.heap.size 69 v' (k + 1) (l ++ [(10 * (k : Int), 10 * (k : Int) + 10)]) := Own.snoc hw.1 hown'
        have B5 := (hb.alloc hsz (.cells #[.int .i64 (10 * (k : Int)), .int .i64 (10 * (k : Int) + 10)] 69)).grown hg5 (by simp; omega) (fun g hg => (hw.2.lt g hg).1)
        clear hw hown' hg5 hb
        go_wp2
        go_roundw
        case rel => exact ⟨k + 1, _, by omega, by go_num, O5, B5⟩
        case measure => simp [intOf]; omega
      · obtain rfl : k = 20 := by omega
        go_wp2
        go_ret2
        exact ⟨_, _, _, _, _, rfl, hw, by omega, hb⟩
  · have d0 : ((y : Int) == 0) = false := by simp; omega
    go_wp2_with fail
    go_ret2
    exact ⟨_, _, _, _, _, rfl, ho3.less (by omega), by omega, hb3⟩
end Go.Proofs.YtefadlbfkhndfaaGreatDoor
