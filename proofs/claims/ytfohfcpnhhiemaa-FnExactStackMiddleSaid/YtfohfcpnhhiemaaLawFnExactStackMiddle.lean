/-
  The walk of the law FnExactStackMiddle.
-/
import Derived.Test.YtfohfcpnhhiemaaMiddle
import Derived.Test.YtfohfcpnhhiemaaSpecMiddle
import Derived.Test.YtfohfcpnhhiemaaMarkR
import Derived.Test.YtfohfcpnhhiemaaOpenR
namespace Go.Proofs.Ytfohfcpnhhiemaa
open Go.RowKit
set_option linter.unusedSimpArgs false
set_option linter.unusedVariables false

set_option maxRecDepth 100000 in
set_option maxHeartbeats 4000000 in
theorem walk_FnExactStackMiddle (w : World) (A : Option Addr) (n c : Nat) (R : List (List Int)) (h : Rows2 w w.heap.size A n R) (hn : n ≤ 9223372036854775807) (hy : ∀ r ∈ R, r.length ≤ 9223372036854775807) :
    Calls Try.prog 14 #[.slice A n c] w fun e w' => e = .returned (.bool true) ∧ Below w.heap.size w w' := by
  have Z := Lib.hid (szIntSS_any A n c R 1048576 w h (by omega) (by omega) hn hy)
  clear hy hn
  have hlr := Lib.hid h.len
  go_enter Try.func14, Try.ntmps14
  go_wp2_with fail
  refine Z.out.mono ?_
  rintro e w1 ⟨r, rfl, hr1, hr2, hr3, rfl⟩
  clear Z
  by_cases h0 : r < 0
  · clear hr3
    go_wp2
    go_ret
    exact ⟨rfl, Below.refl _ _⟩
  have hn1 : n ≤ 1048576 := by have := (hr3 (by omega)).1; omega
  have hR1 := Lib.hid (fun (x : List Int) (hx : x ∈ R) => show x.length ≤ 1048576 by have := (hr3 (by omega)).2 x hx; omega)
  have hR2 := Lib.hid (fun (x : List Int) (hx : x ∈ R) => show x.length ≤ 1099511627776 by have := hR1.out x hx; omega)
  have h0' : 0 ≤ r := by omega
  clear hr1 hr2 hr3 h0
  have H := Lib.hid h
  clear h
  have TO := Lib.hid (fun W hb => toIntSS_any A n c R W ((H.out.below' hb).more hb.size) hn1 hR1.out)
  have BB := Below.refl w.heap.size w
  obtain ⟨Q, hQ⟩ : ∃ Q, Q = midsR R := ⟨_, rfl⟩
  obtain ⟨ok, hok⟩ : ∃ ok, ok = stackB R := ⟨_, rfl⟩
  have hQn : Q.length ≤ 1048576 := by
    rw [hQ]
    unfold midsR
    split
    · rename_i hB
      have := (stack_wid hB).2
      rw [mids_length]; omega
    · simp
  have KS := Lib.hid (fun A c W h => specMiddle_any A n c R W h (by omega) hR2.out)
  have KI := Lib.hid (fun A c W h => implMiddle_any A n c R W h (by omega) hR2.out)
  rw [← hQ, ← hok] at KS KI
  have fb : (ok != ok) = false := by simp
  clear hQ hok
  go_wp2_with fail
  refine (TO.out _ BB).mono ?_
  rintro e w1 ⟨A1, c1, vs1, rfl, o1, hc1, b1⟩
  replace BB := BB.trans (b1.mono BB.size)
  have s1 := b1.size
  clear b1
  go_wp2_with fail
  refine (KS.out A1 c1 _ o1.rows).mono ?_
  rintro e w2 ⟨A2, n2, c2, rfl, o2, b2⟩
  replace BB := BB.trans (b2.mono BB.size)
  replace o1 := o1.below b2 (Nat.le_refl _)
  have s2 := b2.size
  clear b2
  have hn2 := o2.1
  obtain rfl : Q.length = n2 := hn2

  have x3 := o2.arr II_length
  obtain ⟨H0, hH0⟩ : ∃ H0, H0 = w2.heap.size := ⟨_, rfl⟩
  rw [← hH0] at x3
  have H3 : H0 ≤ w2.heap.size := by omega
  have H33 : H0 ≤ w2.heap.size := by omega
  have z3 := BB.size
  clear hH0
  clear o1 o2
  go_wp2_with fail
  refine (TO.out _ BB).mono ?_
  rintro e w3 ⟨A3, c3, vs3, rfl, o3, hc3, b3⟩
  replace BB := BB.trans (b3.mono BB.size)
  replace x3 := x3.below b3 H3
  replace H3 := Nat.le_trans H3 b3.size
  have s3 := b3.size
  clear b3
  have C3 := Lib.hid (fun (j : Nat) u (hu : vs3[j]? = some u) g hg => (o3.lt hu g hg).2)
  go_wp2_with fail
  refine (KI.out A3 c3 _ o3.rows).mono ?_
  rintro e w4 ⟨A4, n4, c4, rfl, o4, b4⟩
  replace BB := BB.trans (b4.mono BB.size)
  replace x3 := x3.below b4 H3
  replace H3 := Nat.le_trans H3 b4.size
  replace o3 := o3.below b4 (Nat.le_refl _)
  have s4 := b4.size
  clear b4
  have hn4 := o4.1
  obtain rfl : Q.length = n4 := hn4

  go_wp2_with fail
  refine (eqIntS_yes (o4.arr II_length) (x3.more H3) (by omega)).mono ?_
  rintro e w5 ⟨rfl, b5⟩
  replace BB := BB.trans (b5.mono BB.size)
  replace x3 := x3.below b5 H3
  replace H3 := Nat.le_trans H3 b5.size
  replace o3 := o3.below b5 (Nat.le_refl _)
  replace o4 := o4.below b5 (Nat.le_refl _)
  have s5 := b5.size
  clear b5
  go_wp2_with fail
  refine (TO.out _ BB).mono ?_
  rintro e w6 ⟨A6, c6, vs6, rfl, o6, hc6, b6⟩
  replace BB := BB.trans (b6.mono BB.size)
  replace x3 := x3.below b6 H3
  replace H3 := Nat.le_trans H3 b6.size
  replace o3 := o3.below b6 (Nat.le_refl _)
  replace o4 := o4.below b6 (Nat.le_refl _)
  have s6 := b6.size
  clear b6
  go_wp2_with fail
  refine (eqIntSS_yes A3 n c3 A6 n c6 R _ o3.rows o6.rows (by omega) hR2.out).mono ?_
  rintro e w7 ⟨rfl, b7⟩
  replace BB := BB.trans (b7.mono BB.size)
  replace x3 := x3.below b7 H3
  replace H3 := Nat.le_trans H3 b7.size
  replace o3 := o3.below b7 (Nat.le_refl _)
  replace o4 := o4.below b7 (Nat.le_refl _)
  replace o6 := o6.below b7 (Nat.le_refl _)
  have s7 := b7.size
  clear b7
  clear o6
  have aR0 := ahead_bd hR1.out
  rw [hlr.out] at aR0
  have f8 : ¬ ((1 : Int) + (ahead R : Int) < 0) := by omega
  go_wp2_with fail
  refine (markIntSS_any A3 n c3 w2.heap.size w3.heap.size _ _ vs3 R 1 _ o3 C3.out (by omega) hn1 hR1.out).mono ?_
  rintro e w8 ⟨rfl, om, t8⟩
  have tb := t8.below (by omega)
  replace BB := BB.trans (tb.mono (by omega))
  replace x3 := x3.below tb H33
  replace H3 := Nat.le_trans H3 t8.size
  replace o4 := o4.turned t8 (Nat.le_refl _)
  have s8 := t8.size
  clear tb t8 om o3
  go_wp2_with fail
  refine (eqIntS_yes (o4.arr II_length) (x3.more H3) (by omega)).mono ?_
  rintro e w9 ⟨rfl, b9⟩
  replace BB := BB.trans (b9.mono BB.size)
  replace x3 := x3.below b9 H3
  replace H3 := Nat.le_trans H3 b9.size
  replace o4 := o4.below b9 (Nat.le_refl _)
  have s9 := b9.size
  clear b9
  go_wp2_with fail
  refine (markIntS_any A4 _ c4 _ _ Q 1 _ o4 (by omega) (by omega)).mono ?_
  rintro e w10 ⟨rfl, om, t10⟩
  replace BB := BB.grown t10 BB.size (fun g hg => by have := (o4.2.lt g hg).1; omega)
  replace x3 := x3.grown t10 H3 (fun g hg => by have := (o4.2.lt g hg).1; omega)
  replace H3 := Nat.le_trans H3 t10.size
  have s10 := t10.size
  clear t10 o4
  go_wp2_with fail
  refine (heldIntS_any A4 _ c4 1 _ (om.arr II_length) (by omega) (by omega)).mono ?_
  rintro e w11 ⟨rfl, b11⟩
  replace BB := BB.trans (b11.mono BB.size)
  replace x3 := x3.below b11 H3
  replace H3 := Nat.le_trans H3 b11.size
  replace om := om.below b11 (Nat.le_refl _)
  have s11 := b11.size
  clear b11
  go_wp2_with fail
  refine (TO.out _ BB).mono ?_
  rintro e w12 ⟨A12, c12, vs12, rfl, o12, hc12, b12⟩
  replace BB := BB.trans (b12.mono BB.size)
  replace x3 := x3.below b12 H3
  replace H3 := Nat.le_trans H3 b12.size
  replace om := om.below b12 (Nat.le_refl _)
  have s12 := b12.size
  clear b12
  go_wp2_with fail
  refine (KI.out A12 c12 _ o12.rows).mono ?_
  rintro e w13 ⟨A13, n13, c13, rfl, o13, b13⟩
  replace BB := BB.trans (b13.mono BB.size)
  replace x3 := x3.below b13 H3
  replace H3 := Nat.le_trans H3 b13.size
  replace om := om.below b13 (Nat.le_refl _)
  replace o12 := o12.below b13 (Nat.le_refl _)
  have s13 := b13.size
  clear b13
  have hn13 := o13.1
  obtain rfl : Q.length = n13 := hn13

  clear o12
  go_wp2_with fail
  refine (eqIntS_yes (o13.arr II_length) (x3.more H3) (by omega)).mono ?_
  rintro e w14 ⟨rfl, b14⟩
  replace BB := BB.trans (b14.mono BB.size)
  replace x3 := x3.below b14 H3
  replace H3 := Nat.le_trans H3 b14.size
  replace om := om.below b14 (Nat.le_refl _)
  replace o13 := o13.below b14 (Nat.le_refl _)
  have s14 := b14.size
  clear b14
  clear o13
  go_wp2_with fail
  refine (heldIntS_any A4 _ c4 1 _ (om.arr II_length) (by omega) (by omega)).mono ?_
  rintro e w15 ⟨rfl, b15⟩
  replace BB := BB.trans (b15.mono BB.size)
  replace x3 := x3.below b15 H3
  replace H3 := Nat.le_trans H3 b15.size
  replace om := om.below b15 (Nat.le_refl _)
  have s15 := b15.size
  clear b15
  go_wp2
  go_ret
  exact ⟨rfl, BB⟩
end Go.Proofs.Ytfohfcpnhhiemaa
