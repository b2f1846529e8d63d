/-
  The walk of the law: no orders need nothing.
-/
import Derived.Test.YtoelnlkkkpijhaaLawNeed
import Derived.Test.YtoelnlkkkpijhaaCut
import Derived.Test.YtoelnlkkkpijhaaPlainW
namespace Go.Proofs.Ytoelnlkkkpijhaa
open Go.RowKit
set_option linter.unusedSimpArgs false
set_option linter.unusedVariables false

theorem need_none_cut {L : List (Int × Int)} (hO : ordersB L = true) {M : Int} (hM : M = need L) (h1 : 1 ≤ M) (h2 : M ≤ 30000) : ∃ xs, cutAll [(0, M)] L 0 = some (xs, []) ∧ xs.length = (widths L).length := by
  have hall := ((ordersB_iff L).1 hO).1
  have hE := need_good hall ((ordersB_iff L).1 hO).2
  have hS := sumI_widths hall
  obtain ⟨xs, e, hl⟩ := cutW_full (fun x hx => (widths_all hall x hx).1) 0
  have hB : coreB [(0, M)] = true := by
    rw [coreB_iff, coreFrom_cons]
    exact ⟨⟨⟨Int.le_refl _, by show (0 : Int) < M; omega, h2⟩, rfl⟩, by simp⟩
  refine ⟨xs, ?_, hl⟩
  rw [cutAll_ok hB hO ⟨by omega, by omega⟩]
  have : oneP 0 (sumI (widths L)) = [(0, M)] := by
    rw [oneP, if_pos (by omega), hS, hM, hE, Int.zero_add]
  rw [← this]
  exact e
theorem Own.lit0 (w : World) (T : TypeId) : Arr PP 2 (w.alloc (.cells #[] T)) (w.alloc (.cells #[] T)).heap.size (some ⟨w.heap.size, 0, none⟩) 0 [] := Arr.nil_ _ _ _ _ _

set_option maxHeartbeats 1000000 in
theorem walk_FnNeedNone (w : World) (A : Option Addr) (n c : Nat) (l : List Int) (h : Arr BB 1 w w.heap.size A n l) (hby : ∀ x ∈ l, 0 ≤ x ∧ x ≤ 255) (hc : n ≤ c) :
    Calls Try.prog 9 #[.slice A n c] w fun e w' => e = .returned (.bool true) ∧ Below w.heap.size w w' := by
  have C := Lib.hid (DrawSampleNeed_any A n c l w h hby hc)
  clear hby h
  by_cases hb : 1048576 < n
  · go_enter Try.func9, Try.ntmps9
    go_wp2_with fail
    go_ret
    exact ⟨rfl, Below.refl _ _⟩
  go_enter Try.func9, Try.ntmps9
  go_wp2_with fail
  refine C.out.mono ?_
  rintro e w1 ⟨A1, n1, c1, L, rfl, o1, hn1, b1⟩
  clear C
  have hn1c : n1 ≤ c1 := by obtain ⟨_, _, e, h1, _⟩ := o1.form; injection e with _ _ e2; omega
  have a1 := o1.arr PP_length
  clear o1
  go_wp2_with fail
  refine (implNeed_any A1 n1 c1 L _ a1 (by omega)).mono ?_
  rintro e w2 ⟨rfl, b2⟩
  have a2 := (a1.below' b2).more b2.size
  have B2 := b1.trans (b2.mono b1.size)
  clear a1 b1 b2
  go_wp2_with fail
  refine (specNeed_any A1 n1 c1 L _ a2 (by omega)).mono ?_
  rintro e w3 ⟨rfl, b3⟩
  have a3 := (a2.below' b3).more b3.size
  have B3 := B2.trans (b3.mono B2.size)
  clear a2 B2 b3
  cases hob : ordersB L with
  | false =>
    have hN : need L = -1 := by unfold need; rw [hob]; rfl
    clear hob
    go_wp2
    go_ret
    exact ⟨rfl, B3⟩
  | true =>
    have hall := Lib.hid ((ordersB_iff L).1 hob).1
    have hpos : 0 ≤ need L := by rw [need_good hall.out ((ordersB_iff L).1 hob).2]; exact (needOf_bd hall.out).1
    have hcut := fun M hM h1 h2 => need_none_cut (M := M) hob hM h1 h2
    obtain ⟨M, hM⟩ : ∃ M, M = need L := ⟨_, rfl⟩
    have hcut' := Lib.hid (hcut M hM)
    have HN := Lib.hid (fun W A => implNeed_any A 0 0 [] W (Arr.nil_ _ _ _ _ _) (by omega))
    rw [← hM] at hpos ⊢
    clear hM hcut hob
    rcases (show M = 0 ∨ 30000 < M ∨ (1 ≤ M ∧ M ≤ 30000) by omega) with h0 | h0 | ⟨h1, h2⟩
    · subst h0
      go_wp2_with fail
      refine (HN.out _ _).mono ?_
      rintro e w4 ⟨rfl, b4⟩
      go_wp2
      go_ret
      exact ⟨rfl, (B3.alloc B3.size _).trans (b4.mono (by have := B3.size; simp; omega))⟩
    · go_wp2_with fail
      refine (HN.out _ _).mono ?_
      rintro e w4 ⟨rfl, b4⟩
      go_wp2
      go_ret
      exact ⟨rfl, (B3.alloc B3.size _).trans (b4.mono (by have := B3.size; simp; omega))⟩
    · obtain ⟨xs, hx, hxl⟩ := hcut'.out h1 h2
      have HX := Lib.hid hx
      have HXL := Lib.hid hxl
      clear hx hxl hcut'
      have d0 : (M == 0) = false := by simp; omega
      go_wp2_with fail
      refine (implCut_as (A' := A1) (n' := n1) (c' := c1) (os := L) (Own.arr (Own.lit1 w3 w3.heap.size 45 0 M (Nat.le_refl _)) PP_length) (Nat.le_refl _) (by omega) ((a3.alloc (Nat.le_refl _) _).more (by simp)) (by omega) (xs := xs) (left := 0) (ok := true) (by rw [HX.out]; rfl) (by rw [HX.out]; rfl) (by rw [HX.out]; rfl)).mono ?_
      rintro e w5 ⟨A5, n5, c5, rfl, o5, b5⟩
      have b5' : Below w3.heap.size w3 w5 := ((Below.refl w3.heap.size w3).alloc (Nat.le_refl _) _).trans (b5.mono (by simp))
      have a5 := (a3.below' b5').more b5'.size
      have B5 := B3.trans (b5'.mono B3.size)
      have hn5 : n5 = (widths L).length := by rw [← HXL.out, ← o5.1]
      have hwl := widths_bd hall.out
      have hLn := a3.1
      have hwl2 : (widths L).length ≤ 1000 := by omega
      obtain ⟨N5, hN5⟩ : ∃ N, N = (widths L).length := ⟨_, rfl⟩
      have W5 := Lib.hid (fun W hW => widthsOf_any A1 n1 c1 L W hW hall.out (by omega))
      rw [← hN5] at hn5 W5 hwl2
      subst hn5
      clear o5 b5 b5' hwl hLn hN5
      go_wp2_with fail
      refine (W5.out _ a5).mono ?_
      rintro e w6 ⟨A6, c6, rfl, o6, b6⟩
      have B6 := B5.trans (b6.mono B5.size)
      clear o6 b6 a5
      go_wp2_with fail
      refine (HN.out _ _).mono ?_
      rintro e w7 ⟨rfl, b7⟩
      go_wp2
      go_ret
      exact ⟨rfl, (B6.alloc B6.size _).trans (b7.mono (by have := B6.size; simp; omega))⟩
end Go.Proofs.Ytoelnlkkkpijhaa
