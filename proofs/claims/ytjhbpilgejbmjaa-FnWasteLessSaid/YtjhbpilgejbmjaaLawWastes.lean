/-
  The walks of the laws FnWaste and FnWasteLess; the contract of DrawSampleWaste.
-/
import Derived.Test.YtjhbpilgejbmjaaWaste
import Derived.Test.YtjhbpilgejbmjaaCutHead
namespace Go.Proofs.Ytjhbpilgejbmjaa
open Go.RowKit
set_option linter.unusedSimpArgs false
set_option linter.unusedVariables false

theorem DrawSampleWaste_any (A : Option Addr) (n c : Nat) (l : List Int) (w : World) (h : Arr BB 1 w w.heap.size A n l) (hby : ∀ x ∈ l, 0 ≤ x ∧ x ≤ 255) (hc : n ≤ c) :
    Calls Try.prog 22 #[.slice A n c] w (DrawnCut 42 32 w) := by
  have C := Lib.hid (DrawSampleCut_any A n c l w h hby hc)
  clear hby h
  go_enter Try.func22, Try.ntmps22
  go_wp2_with fail
  refine C.out.mono ?_
  rintro e w1 ⟨A1, n1, c1, L, A2, n2, c2, O, kf, rfl, o1, hn1, o2, hn2, b1⟩
  go_wp2
  go_ret3
  exact ⟨A1, n1, c1, L, A2, n2, c2, O, kf, rfl, o1, hn1, o2, hn2, b1⟩

theorem waste_single {L M : List Pc} {O : List (Int × Int)} {kf : Int} {xs : List Int} (h : cutAll L O kf = some (xs, M)) (hl : L.length = 1) : wasteOf L O kf ≤ kf * (widths O).length := by
  obtain ⟨hB, hO, hk, hc⟩ := cutAll_some h
  have hall := ((ordersB_iff O).1 hO).1
  have hw := fun x hx => (widths_all hall x hx).1
  have g := cutW_single hk.1 hw (by omega) hc
  have hE := need_good hall ((ordersB_iff O).1 hO).2
  have hS := sumI_widths hall
  rw [waste_some h]
  omega

set_option maxHeartbeats 2000000 in
theorem walk_FnWaste (w : World) (A : Option Addr) (n c : Nat) (l : List Int) (h : Arr BB 1 w w.heap.size A n l) (hby : ∀ x ∈ l, 0 ≤ x ∧ x ≤ 255) (hc : n ≤ c) :
    Calls Try.prog 9 #[.slice A n c] w fun e w' => e = .returned (.bool true) ∧ Below w.heap.size w w' := by
  have C := Lib.hid (DrawSampleWaste_any A n c l w h hby hc)
  clear hby h
  by_cases hb : 1048576 < n
  · go_enter Try.func9, Try.ntmps9
    go_wp2_with fail
    go_ret
    exact ⟨rfl, Below.refl _ _⟩
  go_enter Try.func9, Try.ntmps9
  go_wp2_with fail
  refine C.out.mono ?_
  rintro e w1 ⟨A1, n1, c1, L, A2, n2, c2, O, kf, rfl, o1, hn1, o2, hn2, b1⟩
  clear C
  have hc1 := o1.cap
  have hc2 := o2.cap
  have a1 := o1.arr PP_length
  have a2 := o2.arr PP_length
  clear o1 o2
  cases hr : cutAll L O kf with
  | none =>
    have W1 := Lib.hid (fun W h1 h2 => implWaste_any A1 n1 c1 L A2 n2 c2 O kf W h1 hc1 (by omega) h2 (by omega))
    have W2 := Lib.hid (fun W h1 h2 => specWaste_any A1 n1 c1 L A2 n2 c2 O kf W h1 hc1 (by omega) h2 (by omega))
    rw [waste_none hr] at W1 W2
    clear hr
    go_wp2_with fail
    refine (W1.out _ a1 a2).mono ?_
    rintro e w2 ⟨rfl, b2⟩
    have B2 := b1.trans (b2.mono b1.size)
    have a1' := (a1.below' b2).more b2.size
    have a2' := (a2.below' b2).more b2.size
    clear a1 a2 b1 b2
    go_wp2_with fail
    refine (W2.out _ a1' a2').mono ?_
    rintro e w3 ⟨rfl, b3⟩
    have B3 := B2.trans (b3.mono B2.size)
    clear b3
    go_wp2
    go_ret
    exact ⟨rfl, B3⟩
  | some q =>
    obtain ⟨xs, M⟩ := q
    obtain ⟨f1, f2, f3, f4, f5, f6, f7, f8⟩ := waste_facts hr
    obtain ⟨hB, hO, ⟨k0, k1⟩, hcut⟩ := cutAll_some hr
    have fE := waste_some hr
    have W1 := Lib.hid (fun W h1 h2 => implWaste_any A1 n1 c1 L A2 n2 c2 O kf W h1 hc1 (by omega) h2 (by omega))
    have W2 := Lib.hid (fun W h1 h2 => specWaste_any A1 n1 c1 L A2 n2 c2 O kf W h1 hc1 (by omega) h2 (by omega))
    have W0 := Lib.hid (fun W X h1 h2 => implWaste_any A1 n1 c1 L X 0 0 [] kf W h1 hc1 (by omega) h2 (by omega))
    have e0 : wasteOf L [] kf = 0 := by
      have : cutAll L [] kf = some ([], L) := by rw [cutAll_ok hB rfl ⟨k0, k1⟩]; rfl
      rw [waste_some this, show need [] = 0 from rfl]
      omega
    rw [e0] at W0
    have K := Lib.hid (fun W h1 h2 => @implCut_as A1 n1 c1 L A2 n2 c2 O kf W xs (lenOf M) true h1 hc1 (by omega) h2 (by omega) (by rw [hr]; rfl) (by rw [hr]; rfl) (by rw [hr]; rfl))
    have CL := Lib.hid (fun W h1 => implCoreLength_any A1 n1 c1 L W h1 (by omega))
    have ND := Lib.hid (fun W h1 => implNeed_any A2 n2 c2 O W h1 (by omega))
    rw [f8] at CL
    clear hr hB hO hcut e0 f8
    generalize wasteOf L O kf = q at *
    generalize lenOf M = m at *
    generalize need O = d at *
    generalize lenOf L = z at *
    have gE : ((q + d + m) == z) = true := by simp; omega
    have q3 : q ≤ 30000 := by omega
    have FE := Lib.hid fE
    clear fE
    have wE1 : IntKind.i64.wrap (q + d) = q + d := IntWalk.i64_in _ (by omega)
    have wE2 : IntKind.i64.wrap (q + d + m) = q + d + m := IntWalk.i64_in _ (by omega)
    go_wp2_with fail
    refine (W1.out _ a1 a2).mono ?_
    rintro e w2 ⟨rfl, b2⟩
    have B2 := b1.trans (b2.mono b1.size)
    have a1' := (a1.below' b2).more b2.size
    have a2' := (a2.below' b2).more b2.size
    clear a1 a2 b1 b2
    go_wp2_with fail
    refine (W2.out _ a1' a2').mono ?_
    rintro e w3 ⟨rfl, b3⟩
    have B3 := B2.trans (b3.mono B2.size)
    have a1 := (a1'.below' b3).more b3.size
    have a2 := (a2'.below' b3).more b3.size
    clear b3 a1' a2' B2
    go_wp2_with fail
    refine (K.out _ a1 a2).mono ?_
    rintro e w4 ⟨A3, n3, c3, rfl, o3, b4⟩
    have B4 := B3.trans (b4.mono B3.size)
    have a1' := (a1.below' b4).more b4.size
    have a2' := (a2.below' b4).more b4.size
    clear b4 a1 a2 B3 o3
    go_wp2_with fail
    refine (ND.out _ a2').mono ?_
    rintro e w5 ⟨rfl, b5⟩
    have B5 := B4.trans (b5.mono B4.size)
    have a15 := (a1'.below' b5).more b5.size
    clear b5 a1' a2' B4
    go_wp2_with fail
    refine (CL.out _ a15).mono ?_
    rintro e w6 ⟨rfl, b6⟩
    have B6 := B5.trans (b6.mono B5.size)
    have a16 := (a15.below' b6).more b6.size
    clear b6 a15 B5
    go_wp2_with fail
    refine (W0.out _ _ ((a16.alloc (Nat.le_refl _) _).more (by simp)) (Arr.nil_ _ _ _ _ _)).mono ?_
    rintro e w7 ⟨rfl, b7⟩
    have B7 := (B6.alloc B6.size _).trans (b7.mono (by have := B6.size; simp; omega))
    clear b7
    go_wp2
    go_ret
    exact ⟨rfl, B7⟩

set_option maxHeartbeats 2000000 in
theorem walk_FnWasteLess (w : World) (A : Option Addr) (n c : Nat) (l : List Int) (h : Arr BB 1 w w.heap.size A n l) (hby : ∀ x ∈ l, 0 ≤ x ∧ x ≤ 255) (hc : n ≤ c) :
    Calls Try.prog 10 #[.slice A n c] w fun e w' => e = .returned (.bool true) ∧ Below w.heap.size w w' := by
  have C := Lib.hid (DrawSampleWaste_any A n c l w h hby hc)
  clear hby h
  by_cases hb : 1048576 < n
  · go_enter Try.func10, Try.ntmps10
    go_wp2_with fail
    go_ret
    exact ⟨rfl, Below.refl _ _⟩
  go_enter Try.func10, Try.ntmps10
  go_wp2_with fail
  refine C.out.mono ?_
  rintro e w1 ⟨A1, n1, c1, L, A2, n2, c2, O, kf, rfl, o1, hn1, o2, hn2, b1⟩
  clear C
  have hc1 := o1.cap
  have hc2 := o2.cap
  have a1 := o1.arr PP_length
  have a2 := o2.arr PP_length
  clear o1 o2
  cases hr : cutAll L O kf with
  | none =>
    have W1 := Lib.hid (fun W h1 h2 => implWaste_any A1 n1 c1 L A2 n2 c2 O kf W h1 hc1 (by omega) h2 (by omega))
    have W2 := Lib.hid (fun W h1 h2 => specWaste_any A1 n1 c1 L A2 n2 c2 O kf W h1 hc1 (by omega) h2 (by omega))
    rw [waste_none hr] at W1 W2
    clear hr
    go_wp2_with fail
    refine (W1.out _ a1 a2).mono ?_
    rintro e w2 ⟨rfl, b2⟩
    have B2 := b1.trans (b2.mono b1.size)
    have a1' := (a1.below' b2).more b2.size
    have a2' := (a2.below' b2).more b2.size
    clear a1 a2 b1 b2
    go_wp2_with fail
    refine (W2.out _ a1' a2').mono ?_
    rintro e w3 ⟨rfl, b3⟩
    have B3 := B2.trans (b3.mono B2.size)
    clear b3
    go_wp2
    go_ret
    exact ⟨rfl, B3⟩
  | some q =>
    obtain ⟨xs, M⟩ := q
    obtain ⟨f1, f2, f3, f4, f5, f6, f7, f8⟩ := waste_facts hr
    obtain ⟨hB, hO, ⟨k0, k1⟩, hcut⟩ := cutAll_some hr
    have hall := Lib.hid ((ordersB_iff O).1 hO).1
    have fE := waste_some hr
    have W1 := Lib.hid (fun W h1 h2 => implWaste_any A1 n1 c1 L A2 n2 c2 O kf W h1 hc1 (by omega) h2 (by omega))
    have W2 := Lib.hid (fun W h1 h2 => specWaste_any A1 n1 c1 L A2 n2 c2 O kf W h1 hc1 (by omega) h2 (by omega))
    have ln := a1.1
    have ln2 := a2.1
    have wS := fun hl => waste_single hr (by rw [ln]; exact hl)
    have hwl := widths_bd hall.out
    have W5 := Lib.hid (fun W hW => widthsOf_any A2 n2 c2 O W hW hall.out (by omega))
    obtain ⟨N, hN⟩ : ∃ N, N = (widths O).length := ⟨_, rfl⟩
    have hN2 : N ≤ 1000 := by omega
    rw [← hN] at W5 wS
    have q3 : wasteOf L O kf ≤ 30000 := by omega
    clear hr hB hO hcut f8 fE hwl hN f2 f3 f4 f5 f6 f7
    generalize wasteOf L O kf = q at *
    have hkN : 0 ≤ kf * N ∧ kf * N ≤ 1000000 := by
      constructor
      · exact Int.mul_nonneg k0 (by omega)
      · have h1 := Int.mul_le_mul_of_nonneg_right k1 (show (0 : Int) ≤ N by omega); omega
    by_cases hl1 : n1 = 1
    · have hq := wS hl1
      obtain ⟨P, hP⟩ : ∃ P, P = kf * (N : Int) := ⟨_, rfl⟩
      have e1 : wrap64 (kf * (N : Int)) = P := by rw [hP]; exact w64 ⟨hkN.1, by omega⟩
      have e2 : IntKind.i64.wrap (kf * (N : Int)) = P := by rw [hP]; exact IntWalk.i64_in _ ⟨by omega, by omega⟩
      rw [← hP] at hq
      have hq' := hq
      have e1' := Lib.hid e1
      clear wS hkN hP ln ln2
      subst hl1
      go_wp2_with fail
      refine (W1.out _ a1 a2).mono ?_
      rintro e w2 ⟨rfl, b2⟩
      have B2 := b1.trans (b2.mono b1.size)
      have a1' := (a1.below' b2).more b2.size
      have a2' := (a2.below' b2).more b2.size
      clear a1 a2 b1 b2
      go_wp2_with fail
      refine (W2.out _ a1' a2').mono ?_
      rintro e w3 ⟨rfl, b3⟩
      have B3 := B2.trans (b3.mono B2.size)
      have a2 := (a2'.below' b3).more b3.size
      clear b3 a1' a2' B2
      go_wp2_with fail
      refine (W5.out _ a2).mono ?_
      rintro e w4 ⟨A4, c4, rfl, o4, b4⟩
      have B4 := B3.trans (b4.mono B3.size)
      clear b4 o4 a2
      go_wp2
      go_ret
      exact ⟨rfl, B4⟩
    · have hne : ((n1 : Int) != 1) = true := by simp; omega
      clear wS hkN ln ln2
      go_wp2_with fail
      refine (W1.out _ a1 a2).mono ?_
      rintro e w2 ⟨rfl, b2⟩
      have B2 := b1.trans (b2.mono b1.size)
      have a1' := (a1.below' b2).more b2.size
      have a2' := (a2.below' b2).more b2.size
      clear a1 a2 b1 b2
      go_wp2_with fail
      refine (W2.out _ a1' a2').mono ?_
      rintro e w3 ⟨rfl, b3⟩
      have B3 := B2.trans (b3.mono B2.size)
      clear b3 a1' a2' B2
      go_wp2
      go_ret
      exact ⟨rfl, B3⟩
end Go.Proofs.Ytjhbpilgejbmjaa
