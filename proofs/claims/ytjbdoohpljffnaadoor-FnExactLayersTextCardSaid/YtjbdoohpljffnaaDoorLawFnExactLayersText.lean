/-
  The walk of the law FnExactLayersText.
-/
import Derived.Test.YtjbdoohpljffnaaDoorLayersText
import Derived.Test.YtjbdoohpljffnaaDoorLayersTextI
import Derived.Test.YtjbdoohpljffnaaDoorPairLayer
namespace Go.Proofs.YtjbdoohpljffnaaDoor
open Go.RowKit
set_option linter.unusedSimpArgs false
set_option linter.unusedVariables false

theorem eqLayerS_yes {A A' : Option Addr} {n c n' c' : Nat} {l : List (Int × Bool)} {w : World} (h : Arr LL 2 w w.heap.size A n l) (h' : Arr LL 2 w w.heap.size A' n' l) (hn : n ≤ 1048576) :
    Calls Tryd.prog 28 #[.slice A n c, .slice A' n' c'] w fun e w' => e = .returned (.bool true) ∧ Below w.heap.size w w' := by
  have C := eqLayerS_any A n c l A' n' c' l w h h' hn (by have := h.1; have := h'.1; omega)
  rw [decide_eq_true rfl] at C
  exact C
set_option maxRecDepth 100000 in
set_option maxHeartbeats 2000000 in
theorem walk_FnExactLayersText (w : World) (A : Option Addr) (n c : Nat) (l : List (Int × Bool)) (h : Arr LL 2 w w.heap.size A n l) (hn : n ≤ 9223372036854775807) (hT : Tab w) :
    Calls Tryd.prog 6 #[.slice A n c] w fun e w' => e = .returned (.bool true) ∧ Below w.heap.size w w' := by
  have HT := Lib.hid hT
  clear hT
  by_cases hb : 1048576 < n
  · have C := szLayerS_any A n c 1048576 w (by omega) (by omega) hn
    rw [if_pos (by omega)] at C
    have C' := Lib.hid C
    clear C
    go_enter Tryd.func6, Tryd.ntmps6
    go_wp2_with fail
    refine C'.out.mono ?_
    rintro e w' ⟨rfl, rfl⟩
    go_wp2
    go_ret
    exact ⟨rfl, Below.refl _ _⟩
  have C := szLayerS_any A n c 1048576 w (by omega) (by omega) hn
  rw [if_neg (by omega)] at C
  have C' := Lib.hid C
  have hp : 0 ≤ (1048576 : Int) - n := by omega
  clear C
  have hn1 : n ≤ 1048576 := by omega
  have KS := Lib.hid (fun (A1 : Option Addr) (c1 : Nat) W h1 => specLayersText_any A1 n c1 l W h1 (by omega))
  have KI := Lib.hid (fun (A1 : Option Addr) (c1 : Nat) W h1 h2 => implLayersText_any A1 n c1 l W h1 (by omega) h2)
  generalize tx (layersT l) = S at *
  go_enter Tryd.func6, Tryd.ntmps6
  go_wp2_with fail
  refine (C'.out).mono ?_
  rintro e w' ⟨rfl, rfl⟩
  go_wp2_with fail
  refine (toLayerS_any A n c l _ h hn1).mono ?_
  rintro e w1 ⟨A1, c1, rfl, o1, b1⟩
  have BB := b1
  have s1 := b1.size
  clear b1
  go_wp2_with fail
  refine (KS.out A1 c1 _ (o1.arr LL_length)).mono ?_
  rintro e w2 ⟨rfl, b2⟩
  replace BB := BB.trans (b2.mono BB.size)
  replace o1 := o1.below b2 (Nat.le_refl _)
  have s2 := b2.size
  clear b2
  clear o1
  go_wp2_with fail
  refine (toLayerS_any A n c l _ ((h.below' BB).more BB.size) hn1).mono ?_
  rintro e w3 ⟨A3, c3, rfl, o3, b3⟩
  replace BB := BB.trans (b3.mono BB.size)
  have s3 := b3.size
  clear b3
  go_wp2_with fail
  refine (KI.out A3 c3 _ (o3.arr LL_length) (HT.out.below BB (Nat.le_refl _))).mono ?_
  rintro e w4 ⟨rfl, b4⟩
  replace BB := BB.trans (b4.mono BB.size)
  replace o3 := o3.below b4 (Nat.le_refl _)
  have s4 := b4.size
  clear b4
  go_wp2_with fail
  refine (toLayerS_any A n c l _ ((h.below' BB).more BB.size) hn1).mono ?_
  rintro e w5 ⟨A5, c5, rfl, o5, b5⟩
  replace BB := BB.trans (b5.mono BB.size)
  replace o3 := o3.below b5 (Nat.le_refl _)
  have s5 := b5.size
  clear b5
  go_wp2_with fail
  refine (eqLayerS_yes (o3.arr LL_length) (o5.arr LL_length) hn1).mono ?_
  rintro e w6 ⟨rfl, b6⟩
  replace BB := BB.trans (b6.mono BB.size)
  replace o3 := o3.below b6 (Nat.le_refl _)
  replace o5 := o5.below b6 (Nat.le_refl _)
  have s6 := b6.size
  clear b6
  go_wp2
  go_ret
  exact ⟨rfl, BB⟩
end Go.Proofs.YtjbdoohpljffnaaDoor
