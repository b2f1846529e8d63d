/-
  The walk of the law FnExactSampleCut.
-/
import Derived.Test.YtjhbpilgejbmjaaCutHead
import Derived.Test.YtjhbpilgejbmjaaPairPiece
import Derived.Test.YtjhbpilgejbmjaaPairOrder
import Derived.Test.YtjhbpilgejbmjaaEqIntS
import Derived.Test.YtjhbpilgejbmjaaMarkPiece
import Derived.Test.YtjhbpilgejbmjaaMarkOrder
import Derived.Test.YtjhbpilgejbmjaaExactHead
namespace Go.Proofs.Ytjhbpilgejbmjaa
open Go.RowKit
set_option linter.unusedSimpArgs false
set_option linter.unusedVariables false

set_option maxHeartbeats 2000000 in
theorem walk_FnExactSampleCut (w : World) (A : Option Addr) (n c : Nat) (l : List (Int × Int)) (h : Arr PP 2 w w.heap.size A n l) (hn : n ≤ 9223372036854775807) (A' : Option Addr) (n' c' : Nat) (l' : List (Int × Int)) (h' : Arr PP 2 w w.heap.size A' n' l') (hn' : n' ≤ 9223372036854775807) (kf : Int) (wfk : (Lit.int .i64 kf).wf = true) :
    Calls Try.prog 12 #[.slice A n c, .slice A' n' c', .int .i64 kf] w fun e w' => e = .returned (.bool true) ∧ Below w.heap.size w w' := by
  clear wfk
  by_cases hb : 1048576 < n
  · have C := szPieceS_any A n c 1048576 w (by omega) (by omega) hn
    rw [if_pos (by omega)] at C
    have C' := Lib.hid C
    clear C
    go_enter Try.func12, Try.ntmps12
    go_wp2_with fail
    refine C'.out.mono ?_
    rintro e w' ⟨rfl, rfl⟩
    go_wp2
    go_ret
    exact ⟨rfl, Below.refl _ _⟩
  have C := szPieceS_any A n c 1048576 w (by omega) (by omega) hn
  rw [if_neg (by omega)] at C
  have C' := Lib.hid C
  have hp : 0 ≤ (1048576 : Int) - n := by omega
  clear C
  have hn1 : n ≤ 1048576 := by omega
  by_cases hb' : 1048576 - (n : Int) < n'
  · have D := szOrderS_any A' n' c' (1048576 - n) w (by omega) (by omega) hn'
    rw [if_pos (by omega)] at D
    have D' := Lib.hid D
    clear D
    go_enter Try.func12, Try.ntmps12
    go_wp2_with fail
    refine C'.out.mono ?_
    rintro e w' ⟨rfl, rfl⟩
    go_wp2_with fail
    refine D'.out.mono ?_
    rintro e w' ⟨rfl, rfl⟩
    go_wp2
    go_ret
    exact ⟨rfl, Below.refl _ _⟩
  have D := szOrderS_any A' n' c' (1048576 - n) w (by omega) (by omega) hn'
  rw [if_neg (by omega)] at D
  have D' := Lib.hid D
  have hp' : 0 ≤ (1048576 : Int) - n - n' := by omega
  clear D
  have hn2 : n' ≤ 1048576 := by omega
  have KI := Lib.hid (fun (A1 : Option Addr) (c1 : Nat) (A2 : Option Addr) (c2 : Nat) W h1 hc h2 => @implCut_as A1 n c1 l A2 n' c2 l' kf W _ _ _ h1 hc (by omega) h2 (by omega) rfl rfl rfl)
  have KS := Lib.hid (fun (A1 : Option Addr) (c1 : Nat) (A2 : Option Addr) (c2 : Nat) W h1 hc h2 => @specCut_as A1 n c1 l A2 n' c2 l' kf W _ _ _ h1 hc (by omega) h2 (by omega) rfl rfl rfl)
  have hX := cut_count l l' kf
  generalize cutX (cutAll l l' kf) = xs at *
  generalize cutLeft (cutAll l l' kf) = lf at *
  generalize (cutAll l l' kf).isSome = ok at *
  have okE : (ok != ok) = false := by simp
  go_enter Try.func12, Try.ntmps12
  go_wp2_with fail
  refine (C'.out).mono ?_
  rintro e w' ⟨rfl, rfl⟩
  go_wp2_with fail
  refine (D'.out).mono ?_
  rintro e w' ⟨rfl, rfl⟩
  go_wp2_with fail
  refine (toPieceS_any A n c l _ h hn1).mono ?_
  rintro e w1 ⟨A1, c1, rfl, o1, b1⟩
  have BB := b1
  have s1 := b1.size
  clear b1
  go_wp2_with fail
  refine (toOrderS_any A' n' c' l' _ ((h'.below' BB).more BB.size) hn2).mono ?_
  rintro e w2 ⟨A2, c2, rfl, o2, b2⟩
  replace BB := BB.trans (b2.mono BB.size)
  replace o1 := o1.below b2 (Nat.le_refl _)
  have s2 := b2.size
  clear b2
  go_wp2_with fail
  refine (KS.out A1 c1 A2 c2 _ (o1.arr PP_length) o1.cap (o2.arr PP_length)).mono ?_
  rintro e w3 ⟨A3, n3, c3, rfl, o3, b3⟩
  replace BB := BB.trans (b3.mono BB.size)
  replace o1 := o1.below b3 (Nat.le_refl _)
  replace o2 := o2.below b3 (Nat.le_refl _)
  have s3 := b3.size
  clear b3
  clear o1 o2
  have x3 := o3.arr II_length
  have hn3 := o3.1
  obtain rfl : xs.length = n3 := hn3
  obtain ⟨H0, hH0⟩ : ∃ H0, H0 = w3.heap.size := ⟨_, rfl⟩
  rw [← hH0] at x3
  have H3 : H0 ≤ w3.heap.size := by omega
  have H33 : H0 ≤ w3.heap.size := by omega
  clear o3 hH0
  go_wp2_with fail
  refine (toPieceS_any A n c l _ ((h.below' BB).more BB.size) hn1).mono ?_
  rintro e w4 ⟨A4, c4, rfl, o4, b4⟩
  replace BB := BB.trans (b4.mono BB.size)
  replace x3 := x3.below b4 H3
  replace H3 := Nat.le_trans H3 b4.size
  have s4 := b4.size
  clear b4
  have q4 : ∀ g, (Value.slice A4 n c4).ownBlock = some g → H0 ≤ g ∧ g < w4.heap.size := fun g hg => by have := o4.2.lt g hg; omega
  have Q4 := Lib.hid q4
  clear q4
  go_wp2_with fail
  refine (toOrderS_any A' n' c' l' _ ((h'.below' BB).more BB.size) hn2).mono ?_
  rintro e w5 ⟨A5, c5, rfl, o5, b5⟩
  replace BB := BB.trans (b5.mono BB.size)
  replace x3 := x3.below b5 H3
  replace H3 := Nat.le_trans H3 b5.size
  replace o4 := o4.below b5 (Nat.le_refl _)
  have s5 := b5.size
  clear b5
  have q5 : ∀ g, (Value.slice A5 n' c5).ownBlock = some g → H0 ≤ g ∧ g < w5.heap.size := fun g hg => by have := o5.2.lt g hg; omega
  have Q5 := Lib.hid q5
  clear q5
  go_wp2_with fail
  refine (KI.out A4 c4 A5 c5 _ (o4.arr PP_length) o4.cap (o5.arr PP_length)).mono ?_
  rintro e w6 ⟨A6, n6, c6, rfl, o6, b6⟩
  replace BB := BB.trans (b6.mono BB.size)
  replace x3 := x3.below b6 H3
  replace H3 := Nat.le_trans H3 b6.size
  replace o4 := o4.below b6 (Nat.le_refl _)
  replace o5 := o5.below b6 (Nat.le_refl _)
  have s6 := b6.size
  clear b6
  have hn6 := o6.1
  obtain rfl : xs.length = n6 := hn6
  go_wp2_with fail
  refine (eqIntS_yes (o6.arr II_length) (x3.more H3) (by omega)).mono ?_
  rintro e w7 ⟨rfl, b7⟩
  replace BB := BB.trans (b7.mono BB.size)
  replace x3 := x3.below b7 H3
  replace H3 := Nat.le_trans H3 b7.size
  replace o4 := o4.below b7 (Nat.le_refl _)
  replace o5 := o5.below b7 (Nat.le_refl _)
  replace o6 := o6.below b7 (Nat.le_refl _)
  have s7 := b7.size
  clear b7
  go_wp2_with fail
  refine (toPieceS_any A n c l _ ((h.below' BB).more BB.size) hn1).mono ?_
  rintro e w8 ⟨A7, c7, rfl, o7, b8⟩
  replace BB := BB.trans (b8.mono BB.size)
  replace x3 := x3.below b8 H3
  replace H3 := Nat.le_trans H3 b8.size
  replace o4 := o4.below b8 (Nat.le_refl _)
  replace o5 := o5.below b8 (Nat.le_refl _)
  replace o6 := o6.below b8 (Nat.le_refl _)
  have s8 := b8.size
  clear b8
  go_wp2_with fail
  refine (eqPieceS_yes (o4.arr PP_length) (o7.arr PP_length) hn1).mono ?_
  rintro e w9 ⟨rfl, b9⟩
  replace BB := BB.trans (b9.mono BB.size)
  replace x3 := x3.below b9 H3
  replace H3 := Nat.le_trans H3 b9.size
  replace o4 := o4.below b9 (Nat.le_refl _)
  replace o5 := o5.below b9 (Nat.le_refl _)
  replace o6 := o6.below b9 (Nat.le_refl _)
  replace o7 := o7.below b9 (Nat.le_refl _)
  have s9 := b9.size
  clear b9
  clear o7
  go_wp2_with fail
  refine (toOrderS_any A' n' c' l' _ ((h'.below' BB).more BB.size) hn2).mono ?_
  rintro e w10 ⟨A8, c8, rfl, o8, b10⟩
  replace BB := BB.trans (b10.mono BB.size)
  replace x3 := x3.below b10 H3
  replace H3 := Nat.le_trans H3 b10.size
  replace o4 := o4.below b10 (Nat.le_refl _)
  replace o5 := o5.below b10 (Nat.le_refl _)
  replace o6 := o6.below b10 (Nat.le_refl _)
  have s10 := b10.size
  clear b10
  go_wp2_with fail
  refine (eqOrderS_yes (o5.arr PP_length) (o8.arr PP_length) hn2).mono ?_
  rintro e w11 ⟨rfl, b11⟩
  replace BB := BB.trans (b11.mono BB.size)
  replace x3 := x3.below b11 H3
  replace H3 := Nat.le_trans H3 b11.size
  replace o4 := o4.below b11 (Nat.le_refl _)
  replace o5 := o5.below b11 (Nat.le_refl _)
  replace o6 := o6.below b11 (Nat.le_refl _)
  replace o8 := o8.below b11 (Nat.le_refl _)
  have s11 := b11.size
  clear b11
  clear o8
  have m4 := Lib.hid (fun g hg => (o4.2.lt g hg).1)
  have m5 := Lib.hid (fun g hg => (o5.2.lt g hg).1)
  go_wp2_with fail
  refine (markPieceS_any A4 n c4 _ _ l 1 _ o4 (by omega) (by omega)).mono ?_
  rintro e w20 ⟨rfl, o20, g20⟩
  replace BB := BB.grown g20 BB.size (fun g hg => by have := m4.out g hg; omega)
  replace o5 := o5.kept g20 (fun g hg => by have := (Q4.out g hg).2; omega)
  replace o6 := o6.kept g20 (fun g hg => by have := (Q4.out g hg).2; omega)
  replace x3 := x3.grown g20 H3 (fun g hg => (Q4.out g hg).1)
  replace H3 := Nat.le_trans H3 g20.size
  have s20 := g20.size
  clear g20 o20 o4
  go_wp2_with fail
  refine (markOrderS_any A5 n' c5 _ _ l' (1 + 2 * n) _ o5 (by omega) (by omega)).mono ?_
  rintro e w21 ⟨rfl, o21, g21⟩
  replace BB := BB.grown g21 BB.size (fun g hg => by have := m5.out g hg; omega)
  replace o6 := o6.kept g21 (fun g hg => by have := (Q5.out g hg).2; omega)
  replace x3 := x3.grown g21 H3 (fun g hg => (Q5.out g hg).1)
  replace H3 := Nat.le_trans H3 g21.size
  have s21 := g21.size
  clear g21 o21 o5
  go_wp2_with fail
  refine (eqIntS_yes (o6.arr II_length) (x3.more H3) (by omega)).mono ?_
  rintro e w22 ⟨rfl, b22⟩
  replace BB := BB.trans (b22.mono BB.size)
  replace o6 := o6.below b22 (Nat.le_refl _)
  replace x3 := x3.below b22 H3
  replace H3 := Nat.le_trans H3 b22.size
  have s22 := b22.size
  have m6 := Lib.hid (fun g hg => (o6.2.lt g hg).1)
  clear b22
  go_wp2_with fail
  refine (markIntS_any A6 _ c6 _ _ xs 1 _ o6 (by omega) (by omega)).mono ?_
  rintro e w23 ⟨rfl, o23, g23⟩
  replace BB := BB.grown g23 BB.size (fun g hg => by have := m6.out g hg; omega)
  replace x3 := x3.grown g23 H3 (fun g hg => by have := m6.out g hg; omega)
  replace H3 := Nat.le_trans H3 g23.size
  have s23 := g23.size
  clear g23 o6
  go_wp2_with fail
  refine (heldIntS_any A6 _ c6 1 _ (o23.arr II_length) (by omega) (by omega)).mono ?_
  rintro e w24 ⟨rfl, b24⟩
  replace BB := BB.trans (b24.mono BB.size)
  replace o23 := o23.below b24 (Nat.le_refl _)
  replace x3 := x3.below b24 H3
  replace H3 := Nat.le_trans H3 b24.size
  have s24 := b24.size
  clear b24
  go_wp2_with fail
  refine (toPieceS_any A n c l _ ((h.below' BB).more BB.size) hn1).mono ?_
  rintro e w31 ⟨A31, c31, rfl, o31, b31⟩
  replace BB := BB.trans (b31.mono BB.size)
  replace o23 := o23.below b31 (Nat.le_refl _)
  replace x3 := x3.below b31 H3
  replace H3 := Nat.le_trans H3 b31.size
  have s31 := b31.size
  clear b31
  go_wp2_with fail
  refine (toOrderS_any A' n' c' l' _ ((h'.below' BB).more BB.size) hn2).mono ?_
  rintro e w32 ⟨A32, c32, rfl, o32, b32⟩
  replace BB := BB.trans (b32.mono BB.size)
  replace o23 := o23.below b32 (Nat.le_refl _)
  replace x3 := x3.below b32 H3
  replace H3 := Nat.le_trans H3 b32.size
  replace o31 := o31.below b32 (Nat.le_refl _)
  have s32 := b32.size
  clear b32
  go_wp2_with fail
  refine (KI.out A31 c31 A32 c32 _ (o31.arr PP_length) o31.cap (o32.arr PP_length)).mono ?_
  rintro e w33 ⟨A33, n33, c33, rfl, o33, b33⟩
  replace BB := BB.trans (b33.mono BB.size)
  replace o23 := o23.below b33 (Nat.le_refl _)
  replace x3 := x3.below b33 H3
  replace H3 := Nat.le_trans H3 b33.size
  replace o31 := o31.below b33 (Nat.le_refl _)
  replace o32 := o32.below b33 (Nat.le_refl _)
  have s33 := b33.size
  clear b33
  have hn33 := o33.1
  obtain rfl : xs.length = n33 := hn33
  clear o31 o32
  go_wp2_with fail
  refine (eqIntS_yes (o33.arr II_length) (x3.more H3) (by omega)).mono ?_
  rintro e w34 ⟨rfl, b34⟩
  replace BB := BB.trans (b34.mono BB.size)
  replace o23 := o23.below b34 (Nat.le_refl _)
  replace x3 := x3.below b34 H3
  replace H3 := Nat.le_trans H3 b34.size
  replace o33 := o33.below b34 (Nat.le_refl _)
  have s34 := b34.size
  clear b34
  go_wp2_with fail
  refine (heldIntS_any A6 _ c6 1 _ (o23.arr II_length) (by omega) (by omega)).mono ?_
  rintro e w35 ⟨rfl, b35⟩
  replace BB := BB.trans (b35.mono BB.size)
  replace o23 := o23.below b35 (Nat.le_refl _)
  replace x3 := x3.below b35 H3
  replace H3 := Nat.le_trans H3 b35.size
  replace o33 := o33.below b35 (Nat.le_refl _)
  have s35 := b35.size
  clear b35
  go_wp2
  go_ret
  exact ⟨rfl, BB⟩

end Go.Proofs.Ytjhbpilgejbmjaa
