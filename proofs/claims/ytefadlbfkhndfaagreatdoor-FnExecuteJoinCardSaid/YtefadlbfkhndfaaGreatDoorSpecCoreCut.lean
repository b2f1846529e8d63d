/-
  Contract: CoreCut of the reference.
-/
import Derived.Test.YtefadlbfkhndfaaGreatDoorSpecHas
import Derived.Test.YtefadlbfkhndfaaGreatDoorGJ
import Derived.Test.YtefadlbfkhndfaaGreatDoorGA
import Derived.Deep.RegionHeld3
import Derived.BigQuiet
namespace Go.Proofs.YtefadlbfkhndfaaGreatDoor
open Go.RowKit
set_option linter.unusedSimpArgs false
set_option linter.unusedVariables false

theorem Own.litPP2 (w : World) (base : Nat) (T : TypeId) (x y x' y' : Int) (hb : base ≤ w.heap.size) : Own PP 2 (w.alloc (.cells #[.int .i64 x, .int .i64 y, .int .i64 x', .int .i64 y'] T)) base T (.slice (some ⟨w.heap.size, 0, none⟩) 2 2) 2 [(x, y), (x', y')] :=
  ⟨rfl, World.ownsRow_lit w #[.int .i64 x, .int .i64 y, .int .i64 x', .int .i64 y'] 2 hb (by unfold maxLen; omega) rfl⟩

set_option maxRecDepth 100000 in
set_option maxHeartbeats 8000000 in
theorem specCoreCut_any (A : Option Addr) (n c : Nat) (l : List Pc) (d : Int) (w : World) (h : Arr PP 2 w w.heap.size A n l) (hn : n ≤ 1000) (hc : n ≤ c) :
    Calls Tryz.prog 34 #[.slice A n c, .int .i64 d] w (RetPc 69 w ((coreCutL l d).getD []) (coreCutL l d).isSome) := by
  obtain ⟨i0, hi, hz0, hz1, hz2⟩ := info_parts infoPc
  have hln := Lib.hid h.1
  have C := specCoreHas_any A n c l d w h (by omega)
  cases hH : hasL l d with
  | none =>
    rw [hH] at C
    have C' := Lib.hid C
    rw [coreCutL_none hH]
    clear C hH
    go_enter Tryz.func34, Tryz.ntmps34
    go_wp2_with (go_at_call 66; refine C'.out.mono ?_; rintro e w1 ⟨rfl, hb⟩)
    all_goals first
      | (go_ret2
         exact ⟨_, _, _, rfl, Own.made PP 2 _ _ _ (by simpa using hb.size), hb.alloc hb.size _⟩)
      | skip
  | some k =>
    rw [hH] at C
    have C' := Lib.hid C
    obtain ⟨hcB, x, y, hx, hxd, hdy⟩ := hasL_some hH
    have hk : k < n := by rw [← h.1]; exact (List.getElem?_eq_some_iff.1 hx).1
    obtain ⟨b, off, x', y', rfl, hbB, hx', c1, c2⟩ := h.pair hk
    rw [hx] at hx'
    injection hx' with hx'
    injection hx' with h1 h2
    subst h1; subst h2
    have ik0 : ¬ ((k : Int) < 0) := by omega
    have ik1 : (0 : Int) ≤ (k : Int) := by omega
    have ik2 : (k : Int) < (n : Int) := by omega
    by_cases hno : x = d ∨ l.length = 20
    · rw [coreCutL_no hH hx hno]
      rw [hln.out] at hno
      have C2 : Hid (Calls Tryz.prog 66 #[.slice (some ⟨b, off, none⟩) n c, .int .i64 d] w fun e w' => e = .returned (.int .i64 (k : Int)) ∧ Below w.heap.size w w' ∧ w'.cell? ⟨b, off + k * 2, none⟩ = some (.int .i64 x)) := Lib.hid (C'.out.mono fun e w' ⟨he, hb⟩ => ⟨he, hb, (hb.cell (by exact hbB)).trans c1⟩)
      clear C C' hH hx hxd hdy hcB c1 c2
      rcases (show x = d ∨ (x ≠ d ∧ n = 20) by omega) with rfl | ⟨hne, rfl⟩
      · go_enter Tryz.func34, Tryz.ntmps34
        go_wp2_with (go_at_call 66; refine C2.out.mono ?_; rintro e w1 ⟨rfl, hb, c1⟩)
        go_ret2
        exact ⟨_, _, _, rfl, Own.made PP 2 _ _ _ (by simpa using hb.size), hb.alloc hb.size _⟩
      · have g1 : (x == d) = false := by simp [hne]
        go_enter Tryz.func34, Tryz.ntmps34
        go_wp2_with (go_at_call 66; refine C2.out.mono ?_; rintro e w1 ⟨rfl, hb, c1⟩)
        go_ret2
        exact ⟨_, _, _, rfl, Own.made PP 2 _ _ _ (by simpa using hb.size), hb.alloc hb.size _⟩
    · rw [coreCutL_yes hH hx hno]
      simp only [Option.getD_some, Option.isSome_some]
      rw [hln.out] at hno
      have hne : x ≠ d := fun e => hno (.inl e)
      have hn20 : n ≠ 20 := fun e => hno (.inr e)
      have g1 : (x == d) = false := by simp [hne]
      have g2 : ((n : Int) == 20) = false := by simp; omega
      have C2 : Hid (Calls Tryz.prog 66 #[.slice (some ⟨b, off, none⟩) n c, .int .i64 d] w fun e w' => e = .returned (.int .i64 (k : Int)) ∧ Below w.heap.size w w' ∧ w'.cell? ⟨b, off + k * 2, none⟩ = some (.int .i64 x)) := Lib.hid (C'.out.mono fun e w' ⟨he, hb⟩ => ⟨he, hb, (hb.cell (by exact hbB)).trans c1⟩)
      have HC1 := Lib.hid c1
      have HC2 := Lib.hid c2
      have kc : (k : Int) ≤ (c : Int) := by omega
      clear C C' hH hx hxd hdy hcB c1 c2 hno
      go_enter Tryz.func34, Tryz.ntmps34
      go_wp2_with (first
        | (go_at_call 66; refine C2.out.mono ?_; rintro e w1 ⟨rfl, hb, c1⟩
           have hM := Own.made PP 2 w1 w.heap.size 69 hb.size
           have hT := ((h.below hb (Nat.le_refl _)).take (k := k) (by omega)).alloc hb.size (.cells #[] 69)
           have hzz := hb.size)
        | (at_builtin; refine wpList_append_arr _ rfl _ _ 37 rfl w.heap.size 69 i0 (.agg #[.int .i64 0, .int .i64 0]) 2 16 Tryz.underlying37 hi hz0 hz1 hz2 rfl (by decide) PP_length one_PP' _ 0 [] rfl hM w.heap.size _ k c (l.take k) rfl hT (by unfold maxLen; omega) (by omega) (by simp; omega) ?_))
      intro v2 w2 hO hg _
      have B2 : Below w.heap.size w w2 := (hb.alloc hb.size (.cells #[] 69)).grown hg (by simp; omega) (fun j hj => (hM.2.lt j hj).1)
      try simp only [Nat.zero_add, List.nil_append] at hO
      obtain ⟨A3, c3, rfl, _, _⟩ := hO.form
      have d1 := (B2.cell (by exact hbB)).trans HC1.out
      have d2 := (B2.cell (by exact hbB)).trans HC2.out
      have hA2 := Lib.hid (h.below B2 (Nat.le_refl _))
      have z2 := B2.size
      have HO := Lib.hid hO
      have HB2 := Lib.hid B2
      have M1 : k + 2 ≤ maxLen := by unfold maxLen; omega
      have M2 : (k + 2) * 16 ≤ 140737488355328 := by omega
      have hbn : ∀ j, (Value.slice A3 k c3).ownBlock = some j → some b ≠ some j := fun j hj e => by
        injection e with e
        have := (HO.out.2.lt j hj).1
        omega
      have HBN := Lib.hid hbn
      clear hM hT hg hO B2 hb c1 hbn hzz
      go_wp2_with fail
      go_region_held3 (fun w' => w'.cell? ⟨b, off + k * 2, none⟩ = some (.int .i64 x) ∧ w'.cell? ⟨b, off + k * 2 + 1, none⟩ = some (.int .i64 y)) (first | (go_keep; done) | (exact K4)) (first
        | (refine step_append_arr _ rfl (.tmp 33) (.tmp 48) 37 rfl w.heap.size 69 i0 (.agg #[.int .i64 0, .int .i64 0]) 2 16 Tryz.underlying37 hi hz0 hz1 hz2 rfl (by decide) PP_length one_PP' (.slice A3 k c3) k (l.take k) (by simp [Act.eval, Act.put]) (HO.out.drew.alloc _) _ (some ⟨w2.heap.size, 0, none⟩) 2 2 [(x, d), (d, y)] (by simp [Act.eval, Act.put]) (Own.arr (Own.litPP2 w2.drew w2.heap.size 69 x d d y (Nat.le_refl _)) PP_length) M1 M2 (by simp; omega) ?_; intro v4 w4 hO4 hg4 hat4; have B4 : Below w.heap.size w w4 := (HB2.out.drew.alloc (by simpa using z2) (.cells #[.int .i64 x, .int .i64 d, .int .i64 d, .int .i64 y] 69)).grown hg4 (by simp; omega) (fun j hj => (HO.out.2.lt j hj).1); have K4 := And.intro ((B4.cell (by exact hbB)).trans HC1.out) ((B4.cell (by exact hbB)).trans HC2.out)))
      all_goals
        obtain ⟨A5, c5, rfl, _, _⟩ := hO4.form
        have hO5 := Lib.hid hO4
        have HB4 := Lib.hid B4
        have hA4 := Lib.hid (h.below B4 (Nat.le_refl _))
        have z4 := B4.size
        have e1 : IntKind.i64.wrap ((k : Int) + 1) = (k : Int) + 1 := IntWalk.i64_in _ ⟨by omega, by omega⟩
        have kn1 : (k : Int) + 1 ≤ (n : Int) := by omega
        have kc1 : (k : Int) + 1 ≤ (c : Int) := by omega
        have hD := hA4.out.cutAt (k := k + 1) (cap := c) (by omega) hc
        clear hO4 hg4 hat4 B4 K4 d1 d2
        by_cases hkc : c = k + 1
        · have hn1 : n = k + 1 := by omega
          have hdrop := Lib.hid (show l.drop (k + 1) = [] from List.drop_of_length_le (by rw [hln.out]; omega))
          have hD0 : Arr PP 2 w4 w.heap.size (some ⟨b, off, none⟩) 0 ([] : List Pc) := ⟨rfl, fun h => absurd h (by omega)⟩
          clear hD
          subst hkc
          subst hn1
          go_wp2_with (at_builtin; refine wpList_append_arr _ rfl _ _ 37 rfl w.heap.size 69 i0 (.agg #[.int .i64 0, .int .i64 0]) 2 16 Tryz.underlying37 hi hz0 hz1 hz2 rfl (by decide) PP_length one_PP' _ (k + 2) (l.take k ++ [(x, d), (d, y)]) rfl hO5.out w.heap.size _ 0 _ [] rfl hD0 (by unfold maxLen; omega) (by omega) (by omega) ?_)
          intro v6 w6 hO6 hg6 _
          have B6 : Below w.heap.size w w6 := HB4.out.grown hg6 z4 (fun j hj => (hO5.out.2.lt j hj).1)
          obtain ⟨A7, c7, rfl, _, _⟩ := hO6.form
          go_wp2
          go_ret2
          exact retPc_yes (by simp [hdrop.out]) hO6 B6
        · rw [if_neg hkc] at hD
          have hkc' : ¬ ((c : Int) = (k : Int) + 1) := by omega
          go_wp2_with (at_builtin; refine wpList_append_arr _ rfl _ _ 37 rfl w.heap.size 69 i0 (.agg #[.int .i64 0, .int .i64 0]) 2 16 Tryz.underlying37 hi hz0 hz1 hz2 rfl (by decide) PP_length one_PP' _ (k + 2) (l.take k ++ [(x, d), (d, y)]) rfl hO5.out w.heap.size _ (n - (k + 1)) _ (l.drop (k + 1)) rfl hD (by unfold maxLen; omega) (by omega) (by omega) ?_)
          intro v6 w6 hO6 hg6 _
          have B6 : Below w.heap.size w w6 := HB4.out.grown hg6 z4 (fun j hj => (hO5.out.2.lt j hj).1)
          obtain ⟨A7, c7, rfl, _, _⟩ := hO6.form
          go_wp2
          go_ret2
          exact retPc_yes (by simp) hO6 B6
end Go.Proofs.YtefadlbfkhndfaaGreatDoor
