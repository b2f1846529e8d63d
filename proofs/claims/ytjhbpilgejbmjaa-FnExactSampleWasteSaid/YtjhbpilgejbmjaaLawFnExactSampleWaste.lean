/-
  The walk of the law FnExactSampleWaste.
-/
import Derived.Test.YtjhbpilgejbmjaaWaste
import Derived.Test.YtjhbpilgejbmjaaCutHead
import Derived.Test.YtjhbpilgejbmjaaPairPiece
import Derived.Test.YtjhbpilgejbmjaaPairOrder
import Derived.Test.YtjhbpilgejbmjaaExactHead
namespace Go.Proofs.Ytjhbpilgejbmjaa
open Go.RowKit
set_option linter.unusedSimpArgs false
set_option linter.unusedVariables false

set_option maxHeartbeats 2000000 in
theorem walk_FnExactSampleWaste (w : World) (A : Option Addr) (n c : Nat) (l : List (Int × Int)) (h : Arr PP 2 w w.heap.size A n l) (hn : n ≤ 9223372036854775807) (A' : Option Addr) (n' c' : Nat) (l' : List (Int × Int)) (h' : Arr PP 2 w w.heap.size A' n' l') (hn' : n' ≤ 9223372036854775807) (kf : Int) (wfk : (Lit.int .i64 kf).wf = true) :
    Calls Try.prog 11 #[.slice A n c, .slice A' n' c', .int .i64 kf] w fun e w' => e = .returned (.bool true) ∧ Below w.heap.size w w' := by
  clear wfk
  by_cases hb : 1048576 < n
  · have C := szPieceS_any A n c 1048576 w (by omega) (by omega) hn
    rw [if_pos (by omega)] at C
    have C' := Lib.hid C
    clear C
    go_enter Try.func11, Try.ntmps11
    go_wp2_with fail
    refine C'.out.mono ?_
    rintro e w' ⟨rfl, rfl⟩
    go_wp2
    go_ret
    exact ⟨rfl, Below.refl _ _⟩
  have C := szPieceS_any A n c 1048576 w (by omega) (by omega) hn
  rw [if_neg (by omega)] at C
  have C' := Lib.hid C
  have hp : 0 ≤ (1048576 : Int) - n := by omega
  clear C
  have hn1 : n ≤ 1048576 := by omega
  by_cases hb' : 1048576 - (n : Int) < n'
  · have D := szOrderS_any A' n' c' (1048576 - n) w (by omega) (by omega) hn'
    rw [if_pos (by omega)] at D
    have D' := Lib.hid D
    clear D
    go_enter Try.func11, Try.ntmps11
    go_wp2_with fail
    refine C'.out.mono ?_
    rintro e w' ⟨rfl, rfl⟩
    go_wp2_with fail
    refine D'.out.mono ?_
    rintro e w' ⟨rfl, rfl⟩
    go_wp2
    go_ret
    exact ⟨rfl, Below.refl _ _⟩
  have D := szOrderS_any A' n' c' (1048576 - n) w (by omega) (by omega) hn'
  rw [if_neg (by omega)] at D
  have D' := Lib.hid D
  have hp' : 0 ≤ (1048576 : Int) - n - n' := by omega
  clear D
  have hn2 : n' ≤ 1048576 := by omega
  go_enter Try.func11, Try.ntmps11
  go_wp2_with fail
  refine (C'.out).mono ?_
  rintro e w' ⟨rfl, rfl⟩
  go_wp2_with fail
  refine (D'.out).mono ?_
  rintro e w' ⟨rfl, rfl⟩
  go_wp2_with fail
  refine (toPieceS_any A n c l _ h hn1).mono ?_
  rintro e w1 ⟨A1, c1, rfl, o1, b1⟩
  have BB := b1
  have s1 := b1.size
  clear b1
  go_wp2_with fail
  refine (toOrderS_any A' n' c' l' _ ((h'.below' BB).more BB.size) hn2).mono ?_
  rintro e w2 ⟨A2, c2, rfl, o2, b2⟩
  replace BB := BB.trans (b2.mono BB.size)
  replace o1 := o1.below b2 (Nat.le_refl _)
  have s2 := b2.size
  clear b2
  go_wp2_with fail
  refine (specWaste_any A1 n c1 l A2 n' c2 l' kf _ (o1.arr PP_length) o1.cap (by omega) (o2.arr PP_length) (by omega)).mono ?_
  rintro e w3 ⟨rfl, b3⟩
  replace BB := BB.trans (b3.mono BB.size)
  replace o1 := o1.below b3 (Nat.le_refl _)
  replace o2 := o2.below b3 (Nat.le_refl _)
  have s3 := b3.size
  clear b3
  clear o1 o2
  go_wp2_with fail
  refine (toPieceS_any A n c l _ ((h.below' BB).more BB.size) hn1).mono ?_
  rintro e w4 ⟨A3, c3, rfl, o3, b4⟩
  replace BB := BB.trans (b4.mono BB.size)
  have s4 := b4.size
  clear b4
  go_wp2_with fail
  refine (toOrderS_any A' n' c' l' _ ((h'.below' BB).more BB.size) hn2).mono ?_
  rintro e w5 ⟨A4, c4, rfl, o4, b5⟩
  replace BB := BB.trans (b5.mono BB.size)
  replace o3 := o3.below b5 (Nat.le_refl _)
  have s5 := b5.size
  clear b5
  go_wp2_with fail
  refine (implWaste_any A3 n c3 l A4 n' c4 l' kf _ (o3.arr PP_length) o3.cap (by omega) (o4.arr PP_length) (by omega)).mono ?_
  rintro e w6 ⟨rfl, b6⟩
  replace BB := BB.trans (b6.mono BB.size)
  replace o3 := o3.below b6 (Nat.le_refl _)
  replace o4 := o4.below b6 (Nat.le_refl _)
  have s6 := b6.size
  clear b6
  go_wp2_with fail
  refine (toPieceS_any A n c l _ ((h.below' BB).more BB.size) hn1).mono ?_
  rintro e w7 ⟨A5, c5, rfl, o5, b7⟩
  replace BB := BB.trans (b7.mono BB.size)
  replace o3 := o3.below b7 (Nat.le_refl _)
  replace o4 := o4.below b7 (Nat.le_refl _)
  have s7 := b7.size
  clear b7
  go_wp2_with fail
  refine (eqPieceS_yes (o3.arr PP_length) (o5.arr PP_length) hn1).mono ?_
  rintro e w8 ⟨rfl, b8⟩
  replace BB := BB.trans (b8.mono BB.size)
  replace o3 := o3.below b8 (Nat.le_refl _)
  replace o4 := o4.below b8 (Nat.le_refl _)
  replace o5 := o5.below b8 (Nat.le_refl _)
  have s8 := b8.size
  clear b8
  go_wp2_with fail
  refine (toOrderS_any A' n' c' l' _ ((h'.below' BB).more BB.size) hn2).mono ?_
  rintro e w9 ⟨A6, c6, rfl, o6, b9⟩
  replace BB := BB.trans (b9.mono BB.size)
  replace o3 := o3.below b9 (Nat.le_refl _)
  replace o4 := o4.below b9 (Nat.le_refl _)
  replace o5 := o5.below b9 (Nat.le_refl _)
  have s9 := b9.size
  clear b9
  go_wp2_with fail
  refine (eqOrderS_yes (o4.arr PP_length) (o6.arr PP_length) hn2).mono ?_
  rintro e w10 ⟨rfl, b10⟩
  replace BB := BB.trans (b10.mono BB.size)
  replace o3 := o3.below b10 (Nat.le_refl _)
  replace o4 := o4.below b10 (Nat.le_refl _)
  replace o5 := o5.below b10 (Nat.le_refl _)
  replace o6 := o6.below b10 (Nat.le_refl _)
  have s10 := b10.size
  clear b10
  go_wp2
  go_ret
  exact ⟨rfl, BB⟩
end Go.Proofs.Ytjhbpilgejbmjaa
