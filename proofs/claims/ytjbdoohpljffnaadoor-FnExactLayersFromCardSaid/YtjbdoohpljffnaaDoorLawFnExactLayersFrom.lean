/-
  The walk of the law FnExactLayersFrom.
-/
import Derived.Test.YtjbdoohpljffnaaDoorLayersFromI
import Derived.Test.YtjbdoohpljffnaaDoorLayersFromS
import Derived.Test.YtjbdoohpljffnaaDoorPairLayer
import Derived.Test.YtjbdoohpljffnaaDoorMarkLayer
import Derived.Test.YtjbdoohpljffnaaDoorHeldLayer
namespace Go.Proofs.YtjbdoohpljffnaaDoor
open Go.RowKit
set_option linter.unusedSimpArgs false
set_option linter.unusedVariables false

theorem eqLayerS_yes {A A' : Option Addr} {n c n' c' : Nat} {l : List (Int × Bool)} {w : World} (h : Arr LL 2 w w.heap.size A n l) (h' : Arr LL 2 w w.heap.size A' n' l) (hn : n ≤ 1048576) :
    Calls Tryd.prog 28 #[.slice A n c, .slice A' n' c'] w fun e w' => e = .returned (.bool true) ∧ Below w.heap.size w w' := by
  have C := eqLayerS_any A n c l A' n' c' l w h h' hn (by have := h.1; have := h'.1; omega)
  rw [decide_eq_true rfl] at C
  exact C
theorem fromL_len (s : List UInt8) : ((fromL s).getD []).length ≤ 40 := by
  cases h : fromL s with
  | none => simp
  | some l => exact ((layB_iff l).1 (fromL_is h).1).2
set_option maxRecDepth 100000 in
set_option maxHeartbeats 2000000 in
theorem walk_FnExactLayersFrom (w : World) (S : ByteArray) (hT : Tab w) (hE : Errs w) :
    Calls Tryd.prog 13 #[.string S] w fun e w' => e = .returned (.bool true) ∧ Below w.heap.size w w' := by
  by_cases hb : 1048576 < S.size
  · have hb' : (1048576 : Int) < (S.size : Int) := by omega
    go_enter Tryd.func13, Tryd.ntmps13
    go_wp2_with fail
    go_ret
    exact ⟨rfl, Below.refl _ _⟩
  obtain ⟨s, rfl⟩ : ∃ s, S = tx s := ⟨S.data.toList, by cases S; rfl⟩
  have hz := tx_size s
  have KS := Lib.hid (specLayersFrom_any s (by omega) w)
  have KI := Lib.hid (fun W hT hE => implLayersFrom_any s (by omega) W hT hE)
  have HT := Lib.hid hT
  have HE := Lib.hid hE
  have hL := fromL_len s
  generalize (fromL s).getD [] = L at *
  generalize (fromL s).isSome = ok at *
  have okE : (ok != ok) = false := by simp
  have hbz : ¬ (1048576 < ((tx s).size : Int)) := by omega
  clear hb hT hE
  go_enter Tryd.func13, Tryd.ntmps13
  go_wp2_with fail
  refine KS.out.mono ?_
  rintro e w1 ⟨A1, n1, c1, rfl, o1, b1⟩
  have BB := b1
  have x1 := o1.arr LL_length
  obtain rfl : L.length = n1 := o1.1
  obtain ⟨H0, hH0⟩ : ∃ H0, H0 = w1.heap.size := ⟨_, rfl⟩
  rw [← hH0] at x1
  have H3 : H0 ≤ w1.heap.size := by omega
  have H33 := H3
  have hsz : w.heap.size ≤ H0 := by have := b1.size; omega
  clear o1 b1 hH0 KS
  go_wp2_with fail
  refine (KI.out w1 (HT.out.below BB (Nat.le_refl _)) (HE.out.below BB (Nat.le_refl _))).mono ?_
  rintro e w2 ⟨A2, n2, c2, rfl, o2, b2⟩
  obtain rfl : L.length = n2 := o2.1
  replace o2 := o2.less H33
  replace BB := BB.trans (b2.mono BB.size)
  replace x1 := x1.below b2 H3
  replace H3 := Nat.le_trans H3 b2.size
  clear b2
  go_wp2_with fail
  refine (eqLayerS_yes (o2.arr LL_length) (x1.more H3) (by omega)).mono ?_
  rintro e w3 ⟨rfl, b3⟩
  replace BB := BB.trans (b3.mono BB.size)
  replace x1 := x1.below b3 H3
  replace o2 := o2.below b3 (Nat.le_refl _)
  replace H3 := Nat.le_trans H3 b3.size
  clear b3
  have m2 := Lib.hid (fun g hg => (o2.2.lt g hg).1)
  go_wp2_with fail
  refine (markLayerS_any A2 _ c2 _ _ L 1 _ o2 (by omega) (by omega)).mono ?_
  rintro e w4 ⟨rfl, o4, g4⟩
  replace BB := BB.grown g4 BB.size (fun g hg => by have := m2.out g hg; omega)
  replace x1 := x1.grown g4 H3 (fun g hg => m2.out g hg)
  replace H3 := Nat.le_trans H3 g4.size
  clear g4 o2
  go_wp2_with fail
  refine (heldLayerS_any A2 _ c2 1 _ (o4.arr LL_length) (by omega) (by omega)).mono ?_
  rintro e w5 ⟨rfl, b5⟩
  replace BB := BB.trans (b5.mono BB.size)
  replace o4 := o4.below b5 (Nat.le_refl _)
  replace x1 := x1.below b5 H3
  replace H3 := Nat.le_trans H3 b5.size
  clear b5
  go_wp2_with fail
  refine (KI.out w5 (HT.out.below BB (Nat.le_refl _)) (HE.out.below BB (Nat.le_refl _))).mono ?_
  rintro e w6 ⟨A6, n6, c6, rfl, o6, b6⟩
  obtain rfl : L.length = n6 := o6.1
  replace BB := BB.trans (b6.mono BB.size)
  replace o4 := o4.below b6 (Nat.le_refl _)
  replace x1 := x1.below b6 H3
  replace H3 := Nat.le_trans H3 b6.size
  clear b6
  go_wp2_with fail
  refine (eqLayerS_yes (o6.arr LL_length) (x1.more H3) (by omega)).mono ?_
  rintro e w7 ⟨rfl, b7⟩
  replace BB := BB.trans (b7.mono BB.size)
  replace o4 := o4.below b7 (Nat.le_refl _)
  clear b7 o6 x1
  go_wp2_with fail
  refine (heldLayerS_any A2 _ c2 1 _ (o4.arr LL_length) (by omega) (by omega)).mono ?_
  rintro e w8 ⟨rfl, b8⟩
  replace BB := BB.trans (b8.mono BB.size)
  clear b8 o4
  go_wp2
  go_ret
  exact ⟨rfl, BB⟩
end Go.Proofs.YtjbdoohpljffnaaDoor
