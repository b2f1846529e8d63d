/-
  The walk of the exact law on SampleMost.
-/
import Derived.Test.YtoelnlkkkpijhaaPlace
namespace Go.Proofs.Ytoelnlkkkpijhaa
open Go.RowKit
set_option linter.unusedSimpArgs false
set_option linter.unusedVariables false

theorem Own.cap {α : Type} {f : α → List Value} {sz : Nat} {w : World} {base : Nat} {T : TypeId} {A : Option Addr} {n c : Nat} {l : List α} (h : Own f sz w base T (.slice A n c) n l) : n ≤ c := by
  obtain ⟨_, _, e, h1, _⟩ := h.form
  injection e with _ _ e2
  omega

set_option maxHeartbeats 400000 in
theorem walk_FnExactSampleMost (w : World) (A : Option Addr) (n c : Nat) (l : List (Int × Int)) (h : Arr PP 2 w w.heap.size A n l) (hn : n ≤ 9223372036854775807) (width : Int) (wfw : (Lit.int .i64 width).wf = true) (kf : Int) (wfk : (Lit.int .i64 kf).wf = true) :
    Calls Try.prog 6 #[.slice A n c, .int .i64 width, .int .i64 kf] w fun e w' => e = .returned (.bool true) ∧ Below w.heap.size w w' := by
  clear wfw wfk
  by_cases hb : 1048576 < n
  · have C := szPieceS_any A n c 1048576 w (by omega) (by omega) hn
    rw [if_pos (by omega)] at C
    have C' := Lib.hid C
    clear C
    go_enter Try.func6, Try.ntmps6
    go_wp2_with fail
    refine C'.out.mono ?_
    rintro e w' ⟨rfl, rfl⟩
    go_wp2
    go_ret
    exact ⟨rfl, Below.refl _ _⟩
  · have C := szPieceS_any A n c 1048576 w (by omega) (by omega) hn
    rw [if_neg (by omega)] at C
    have C' := Lib.hid C
    have hp : 0 ≤ (1048576 : Int) - n := by omega
    clear C
    have hn1 : n ≤ 1048576 := by omega
    go_enter Try.func6, Try.ntmps6
    go_wp2_with fail
    refine C'.out.mono ?_
    rintro e w' ⟨rfl, rfl⟩
    go_wp2_with fail
    refine (toPieceS_any A n c l _ h hn1).mono ?_
    rintro e w1 ⟨A1, c1, rfl, o1, b1⟩
    go_wp2_with fail
    refine (specMost_any A1 n c1 l width kf _ (o1.arr PP_length) o1.cap (by omega)).mono ?_
    rintro e w2 ⟨rfl, b2⟩
    have B2 := b1.trans (b2.mono b1.size)
    have h2 := h.below' B2
    clear o1 b1 b2
    go_wp2_with fail
    refine (toPieceS_any A n c l _ (h2.more B2.size) hn1).mono ?_
    rintro e w3 ⟨A3, c3, rfl, o3, b3⟩
    go_wp2_with fail
    refine (implMost_any A3 n c3 l width kf _ (o3.arr PP_length) o3.cap (by omega)).mono ?_
    rintro e w4 ⟨rfl, b4⟩
    have o4 := o3.below b4 (Nat.le_refl _)
    have B4 := B2.trans ((b3.trans (b4.mono b3.size)).mono B2.size)
    have h4 := (h.below' B4).more B4.size
    clear o3 b3 b4 h2 B2
    go_wp2_with fail
    refine (toPieceS_any A n c l _ h4 hn1).mono ?_
    rintro e w5 ⟨A5, c5, rfl, o5, b5⟩
    have a4 := ((o4.arr PP_length).below' b5).more b5.size
    have B5 := B4.trans (b5.mono B4.size)
    go_wp2_with fail
    have C2 := eqPieceS_any A3 n c3 l A5 n c5 l w5 a4 (o5.arr PP_length) hn1 hn1
    simp only [decide_true] at C2
    refine C2.mono ?_
    rintro e w6 ⟨rfl, b6⟩
    have B6 := B5.trans (b6.mono B5.size)
    clear C2 a4 o5 o4
    go_wp2
    go_ret
    exact ⟨rfl, B6⟩
end Go.Proofs.Ytoelnlkkkpijhaa
