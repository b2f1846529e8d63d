/-
  The walks of the laws on SampleNeed.
-/
import Derived.Test.YtoelnlkkkpijhaaNeed
import Derived.Test.YtoelnlkkkpijhaaPairOrder
import Derived.Test.YtoelnlkkkpijhaaDrawOrders
import Derived.Test.YtoelnlkkkpijhaaWidths
import Derived.Deep.RegionWith
namespace Go.Proofs.Ytoelnlkkkpijhaa
open Go.RowKit
set_option linter.unusedSimpArgs false
set_option linter.unusedVariables false

set_option maxHeartbeats 400000 in
theorem walk_FnExactSampleNeed (w : World) (A : Option Addr) (n c : Nat) (l : List (Int × Int)) (h : Arr PP 2 w w.heap.size A n l) (hn : n ≤ 9223372036854775807) :
    Calls Try.prog 3 #[.slice A n c] w fun e w' => e = .returned (.bool true) ∧ Below w.heap.size w w' := by
  by_cases hb : 1048576 < n
  · have C := szOrderS_any A n c 1048576 w (by omega) (by omega) hn
    rw [if_pos (by omega)] at C
    have C' := Lib.hid C
    clear C
    go_enter Try.func3, Try.ntmps3
    go_wp2_with fail
    refine C'.out.mono ?_
    rintro e w' ⟨rfl, rfl⟩
    go_wp2
    go_ret
    exact ⟨rfl, Below.refl _ _⟩
  · have C := szOrderS_any A n c 1048576 w (by omega) (by omega) hn
    rw [if_neg (by omega)] at C
    have C' := Lib.hid C
    have hp : 0 ≤ (1048576 : Int) - n := by omega
    clear C
    have hn1 : n ≤ 1048576 := by omega
    go_enter Try.func3, Try.ntmps3
    go_wp2_with fail
    refine C'.out.mono ?_
    rintro e w' ⟨rfl, rfl⟩
    go_wp2_with fail
    -- the reference on a copy
    refine (toOrderS_any A n c l _ h hn1).mono ?_
    rintro e w1 ⟨A1, c1, rfl, o1, b1⟩
    go_wp2_with fail
    refine (specNeed_any A1 n c1 l _ (o1.arr PP_length) (by omega)).mono ?_
    rintro e w2 ⟨rfl, b2⟩
    have B2 := b1.trans (b2.mono b1.size)
    have h2 := h.below' B2
    clear o1 b1 b2
    go_wp2_with fail
    -- the program on another
    refine (toOrderS_any A n c l _ (h2.more B2.size) hn1).mono ?_
    rintro e w3 ⟨A3, c3, rfl, o3, b3⟩
    go_wp2_with fail
    refine (implNeed_any A3 n c3 l _ (o3.arr PP_length) (by omega)).mono ?_
    rintro e w4 ⟨rfl, b4⟩
    have o4 := o3.below b4 (Nat.le_refl _)
    have B4 := B2.trans ((b3.trans (b4.mono b3.size)).mono B2.size)
    have h4 := (h.below' B4).more B4.size
    clear o3 b3 b4 h2 B2
    go_wp2_with fail
    refine (toOrderS_any A n c l _ h4 hn1).mono ?_
    rintro e w5 ⟨A5, c5, rfl, o5, b5⟩
    have a4 := ((o4.arr PP_length).below' b5).more b5.size
    have B5 := B4.trans (b5.mono B4.size)
    go_wp2_with fail
    have C2 := eqOrderS_any A3 n c3 l A5 n c5 l w5 a4 (o5.arr PP_length) hn1 hn1
    simp only [decide_true] at C2
    refine C2.mono ?_
    rintro e w6 ⟨rfl, b6⟩
    have B6 := B5.trans (b6.mono B5.size)
    clear C2 a4 o5 o4
    go_wp2
    go_ret
    exact ⟨rfl, B6⟩

theorem need_split {l : List (Int × Int)} (k : Nat) (h : ordersB l = true) : need (l.take k) = needOf (l.take k) ∧ need (l.drop k) = needOf (l.drop k) ∧ need l = needOf (l.take k) + needOf (l.drop k) ∧
    0 ≤ needOf (l.take k) ∧ 0 ≤ needOf (l.drop k) ∧ needOf (l.take k) + needOf (l.drop k) ≤ 160000 ∧ ((widths l).length : Int) ≤ needOf (l.take k) + needOf (l.drop k) := by
  obtain ⟨h1, h8⟩ := (ordersB_iff l).1 h
  have ht : (l.take k).all okOrder = true := by rw [List.all_eq_true]; intro x hx; exact List.all_eq_true.1 h1 x (List.mem_of_mem_take hx)
  have hd : (l.drop k).all okOrder = true := by rw [List.all_eq_true]; intro x hx; exact List.all_eq_true.1 h1 x (List.mem_of_mem_drop hx)
  have e : needOf l = needOf (l.take k) + needOf (l.drop k) := by rw [← needOf_append, List.take_append_drop]
  have hw := (widths_need h1).1
  have hb := (needOf_bd h1).2
  rw [e] at hw hb
  refine ⟨need_good ht (by rw [List.length_take]; omega), need_good hd (by rw [List.length_drop]; omega), by rw [need_good h1 h8, e], (needOf_bd ht).1, (needOf_bd hd).1, by omega, hw⟩

set_option maxHeartbeats 1000000 in
theorem walk_FnNeed (w : World) (A : Option Addr) (n c : Nat) (l : List Int) (h : Arr BB 1 w w.heap.size A n l) (hby : ∀ x ∈ l, 0 ≤ x ∧ x ≤ 255) (hc : n ≤ c)
    (A' : Option Addr) (n' c' : Nat) (l' : List Int) (h' : Arr BB 1 w w.heap.size A' n' l') (hby' : ∀ x ∈ l', 0 ≤ x ∧ x ≤ 255) (hc' : n' ≤ c') :
    Calls Try.prog 4 #[.slice A n c, .slice A' n' c'] w fun e w' => e = .returned (.bool true) ∧ Below w.heap.size w w' := by
  clear h' hby'
  have C := Lib.hid (DrawSampleNeed_any A n c l w h hby hc)
  clear hby h
  by_cases hb : 1048576 < n
  · go_enter Try.func4, Try.ntmps4
    go_wp2_with fail
    go_ret
    exact ⟨rfl, Below.refl _ _⟩
  by_cases hb' : 1048576 < n'
  · go_enter Try.func4, Try.ntmps4
    go_wp2_with fail
    go_ret
    exact ⟨rfl, Below.refl _ _⟩
  go_enter Try.func4, Try.ntmps4
  go_wp2_with fail
  refine C.out.mono ?_
  rintro e w1 ⟨A1, n1, c1, L, rfl, o1, hn1, b1⟩
  clear C
  have hn1c : n1 ≤ c1 := by obtain ⟨_, _, e, h1, _⟩ := o1.form; injection e with _ _ e2; omega
  have a1 := o1.arr PP_length
  clear o1
  go_wp2_with fail
  refine (implNeed_any A1 n1 c1 L _ a1 (by omega)).mono ?_
  rintro e w2 ⟨rfl, b2⟩
  have a2 := (a1.below' b2).more b2.size
  have B2 := b1.trans (b2.mono b1.size)
  clear a1 b1 b2
  go_wp2_with fail
  refine (specNeed_any A1 n1 c1 L _ a2 (by omega)).mono ?_
  rintro e w3 ⟨rfl, b3⟩
  have a3 := (a2.below' b3).more b3.size
  have B3 := B2.trans (b3.mono B2.size)
  clear a2 B2 b3
  cases hob : ordersB L with
  | false =>
    have hN : need L = -1 := by unfold need; rw [hob]; rfl
    clear hob
    go_wp2
    go_ret
    exact ⟨rfl, B3⟩
  | true =>
    obtain ⟨k, hk⟩ : ∃ k, k = n' % (n1 + 1) := ⟨_, rfl⟩
    have hkn : k ≤ n1 := by have := Nat.mod_lt n' (show 0 < n1 + 1 by omega); omega
    obtain ⟨e1, e2, e3, p1, p2, p3, p4⟩ := need_split k hob
    have K1 := implNeed_any A1 k c1 (L.take k)
    have K2 := implNeed_any (if c1 = k then A1 else A1.map (·.add (k * 2))) (n1 - k) (c1 - k) (L.drop k)
    have K3 := widthsOf_any A1 n1 c1 L
    rw [e1] at K1
    rw [e2] at K2
    obtain ⟨N1, hN1⟩ : ∃ N, N = needOf (L.take k) := ⟨_, rfl⟩
    obtain ⟨N2, hN2⟩ : ∃ N, N = needOf (L.drop k) := ⟨_, rfl⟩
    rw [← hN1, ← hN2] at p3 p4 e3
    rw [← hN1] at p1 K1
    rw [← hN2] at p2 K2
    rw [e3]
    have KK1 : Hid (∀ W, Below w3.heap.size w3 W → Calls Try.prog 16 #[.slice A1 k c1] W fun e w' => e = .returned (.int .i64 N1) ∧ Below w3.heap.size w3 w') := fun W hW => by
      refine (K1 W (((a3.take hkn).below' hW).more hW.size) (by omega)).mono ?_
      rintro e w' ⟨rfl, hb⟩
      exact ⟨rfl, hW.trans (hb.mono hW.size)⟩
    have KK2 : Hid (∀ W, Below w3.heap.size w3 W → Calls Try.prog 16 #[.slice (if c1 = k then A1 else A1.map (·.add (k * 2))) (n1 - k) (c1 - k)] W fun e w' => e = .returned (.int .i64 N2) ∧ Below w3.heap.size w3 w') := fun W hW => by
      refine (K2 W (((a3.cutAt hkn hn1c).below' hW).more hW.size) (by omega)).mono ?_
      rintro e w' ⟨rfl, hb⟩
      exact ⟨rfl, hW.trans (hb.mono hW.size)⟩
    have KK3 : Hid (∀ W, Below w3.heap.size w3 W → Calls Try.prog 19 #[.slice A1 n1 c1] W fun e w' => (∃ A c, e = .returned (.slice A (widths L).length c)) ∧ Below w3.heap.size w3 w') := fun W hW => by
      refine (K3 W ((a3.below' hW).more hW.size) ((ordersB_iff L).1 hob).1 (by omega)).mono ?_
      rintro e w' ⟨A, c, rfl, _, hb⟩
      exact ⟨⟨A, c, rfl⟩, hW.trans (hb.mono hW.size)⟩
    have hkE : ((n' : Int) % ((n1 : Int) + 1)) = (k : Int) := by rw [hk]; simp
    clear K1 K2 K3 hN1 hN2 e1 e2 e3 hk hob a3
    have hBR := Below.refl w3.heap.size w3
    have HE := Lib.hid hkE
    clear hkE
    obtain ⟨Ak, hAk⟩ : ∃ X, (if c1 = k then A1 else Option.map (fun x => x.add (k * 2)) A1) = X := ⟨_, rfl⟩
    rw [hAk] at KK2
    have wE : IntKind.i64.wrap (N1 + N2) = N1 + N2 := IntWalk.i64_in _ (by omega)
    have gE : ((N1 + N2) == (N1 + N2)) = true := by simp
    have hkc : k ≤ c1 := by omega
    have i1 : (k : Int) ≤ (c1 : Int) := by omega
    have i2 : (k : Int) ≤ (n1 : Int) := by omega
    have i3 : (0 : Int) ≤ (k : Int) := by omega
    go_wp2_with fail
    rw [HE.out]
    go_region_with (first
      | (go_at_call_of 16 (Value.slice A1 k c1); refine (KK1.out _ ?_).mono ?_; exact hBR.drew; rintro e w9 ⟨rfl, hb9⟩)
      | (go_at_call 16; refine (KK2.out _ ?_).mono ?_; assumption; rintro e w10 ⟨rfl, hb10⟩)
      | (go_at_call 19; refine (KK3.out _ ?_).mono ?_; exact hb10; rintro e w11 ⟨⟨A9, c9, rfl⟩, hb11⟩))
    go_wp2
    go_ret
    exact ⟨rfl, B3.trans (Below.mono (by assumption) B3.size)⟩
end Go.Proofs.Ytoelnlkkkpijhaa
