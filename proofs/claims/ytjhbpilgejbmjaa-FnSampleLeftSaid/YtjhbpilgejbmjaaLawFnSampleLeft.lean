/-
  The walk of the law FnSampleLeft.
-/
import Derived.Test.YtjhbpilgejbmjaaCutHead
namespace Go.Proofs.Ytjhbpilgejbmjaa
open Go.RowKit
set_option linter.unusedSimpArgs false
set_option linter.unusedVariables false

set_option maxHeartbeats 2000000 in
theorem walk_FnSampleLeft (w : World) (A : Option Addr) (n c : Nat) (l : List Int) (h : Arr BB 1 w w.heap.size A n l) (hby : ∀ x ∈ l, 0 ≤ x ∧ x ≤ 255) (hc : n ≤ c) :
    Calls Try.prog 5 #[.slice A n c] w fun e w' => e = .returned (.bool true) ∧ Below w.heap.size w w' := by
  have C := Lib.hid (DrawSampleCut_any A n c l w h hby hc)
  clear hby h
  by_cases hb : 1048576 < n
  · go_enter Try.func5, Try.ntmps5
    go_wp2_with fail
    go_ret
    exact ⟨rfl, Below.refl _ _⟩
  go_enter Try.func5, Try.ntmps5
  go_wp2_with fail
  refine C.out.mono ?_
  rintro e w1 ⟨A1, n1, c1, L, A2, n2, c2, O, kf, rfl, o1, hn1, o2, hn2, b1⟩
  clear C
  have hc1 := o1.cap
  have hc2 := o2.cap
  have a1 := o1.arr PP_length
  have a2 := o2.arr PP_length
  clear o1 o2
  cases hr : cutAll L O kf with
  | none =>
    have K1 := Lib.hid (fun W h1 h2 => @implCut_as A1 n1 c1 L A2 n2 c2 O kf W [] 0 false h1 hc1 (by omega) h2 (by omega) (by rw [hr]; rfl) (by rw [hr]; rfl) (by rw [hr]; rfl))
    have K2 := Lib.hid (fun W h1 h2 => @specCut_as A1 n1 c1 L A2 n2 c2 O kf W [] 0 false h1 hc1 (by omega) h2 (by omega) (by rw [hr]; rfl) (by rw [hr]; rfl) (by rw [hr]; rfl))
    clear hr
    go_wp2_with fail
    refine (K1.out _ a1 a2).mono ?_
    rintro e w2 ⟨A3, n3, c3, rfl, o3, b2⟩
    have B2 := b1.trans (b2.mono b1.size)
    have a1' := (a1.below' b2).more b2.size
    have a2' := (a2.below' b2).more b2.size
    have x3 := o3.arr II_length
    clear o3 a1 a2 b1 b2 K1
    go_wp2_with fail
    refine (K2.out _ a1' a2').mono ?_
    rintro e w3 ⟨A4, n4, c4, rfl, o4, b3⟩
    have B3 := B2.trans (b3.mono B2.size)
    have HS := Lib.hid (sameInts_later (c := c3) (c' := c4) ((x3.below' b3).more b3.size) (o4.arr II_length))
    clear o4 b3 B2 a1' a2' x3 K2
    go_wp2_with fail
    refine (HS.out _ (Below.refl _ _)).mono ?_
    rintro e w4 ⟨rfl, b4⟩
    go_wp2_with fail
    refine (HS.out _ b4).mono ?_
    rintro e w5 ⟨rfl, b5⟩
    clear b4
    go_wp2
    go_ret
    exact ⟨rfl, B3.trans (b5.mono B3.size)⟩
  | some q =>
    obtain ⟨xs, M⟩ := q
    obtain ⟨LF, hLF⟩ : ∃ z, z = lenOf M := ⟨_, rfl⟩
    have K1 := Lib.hid (fun W h1 h2 => @implCut_as A1 n1 c1 L A2 n2 c2 O kf W xs LF true h1 hc1 (by omega) h2 (by omega) (by rw [hr]; rfl) (by rw [hr, hLF]; rfl) (by rw [hr]; rfl))
    have K2 := Lib.hid (fun W h1 h2 => @specCut_as A1 n1 c1 L A2 n2 c2 O kf W xs LF true h1 hc1 (by omega) h2 (by omega) (by rw [hr]; rfl) (by rw [hr, hLF]; rfl) (by rw [hr]; rfl))
    obtain ⟨hB, hO, ⟨k0, k1⟩, hcut⟩ := cutAll_some hr
    have hF := Lib.hid ((coreB_iff L).1 hB).1
    have hall := Lib.hid ((ordersB_iff O).1 hO).1
    have hCut := Lib.hid hcut
    have HB := Lib.hid hB
    have HO := Lib.hid hO
    have HLF := Lib.hid hLF
    have hgd := cutW_good k0 (fun x hx => (widths_all hall.out x hx).1) hF.out hcut
    have hlen := cutW_len k0 (fun x hx => (widths_all hall.out x hx).1) hF.out hcut
    have hlb := lenOf_bd' hF.out
    have hlm := lenOf_bd' hgd.1
    have hw160 := widths_bd hall.out
    have hl2 := a2.1
    have hl1 := a1.1
    have LF0 : 0 ≤ LF := by omega
    have LF1 : LF ≤ 30000 := by omega
    have hX : xs.length ≤ 200 := by omega
    have hXW := Lib.hid hgd.2.2
    have HL1 := Lib.hid hl1
    have HL2 := Lib.hid hl2
    have hLen := Lib.hid hlen
    clear hr hB hO hcut hLF hgd hlen hlb hlm hw160 hl1 hl2
    go_wp2_with fail
    refine (K1.out _ a1 a2).mono ?_
    rintro e w2 ⟨A3, n3, c3, rfl, o3, b2⟩
    have B2 := b1.trans (b2.mono b1.size)
    have a1' := (a1.below' b2).more b2.size
    have a2' := (a2.below' b2).more b2.size
    have x3 := o3.arr II_length
    have hc3 := o3.cap
    have hn3 := o3.1
    clear o3 a1 a2 b1 b2
    go_wp2_with fail
    refine (K2.out _ a1' a2').mono ?_
    rintro e w3 ⟨A4, n4, c4, rfl, o4, b3⟩
    have B3 := B2.trans (b3.mono B2.size)
    have a1 := (a1'.below' b3).more b3.size
    have a2 := (a2'.below' b3).more b3.size
    have x3' := (x3.below' b3).more b3.size
    have HS := Lib.hid (sameInts_later (c := c3) (c' := c4) x3' (o4.arr II_length))
    clear o4 b3 B2 a1' a2' x3 K2
    go_wp2_with fail
    refine (HS.out _ (Below.refl _ _)).mono ?_
    rintro e w5 ⟨rfl, b5⟩
    have B5 := B3.trans (b5.mono B3.size)
    have a15 := (a1.below' b5).more b5.size
    have a25 := (a2.below' b5).more b5.size
    have x35 := (x3'.below' b5).more b5.size
    clear HS B3 b5 a1 a2 x3'
    obtain rfl : xs.length = n3 := hn3
    have hNeed := Lib.hid (fun W h2 => implNeed_any A2 n2 c2 O W h2 (by omega))
    have hE0 := need_good hall.out ((ordersB_iff O).1 HO.out).2
    have hSW := sumI_widths hall.out
    have hnb := needOf_bd hall.out
    have hLL := hLen.out
    have hLF := HLF.out
    obtain ⟨ND, hND⟩ : ∃ z, z = need O := ⟨_, rfl⟩
    obtain ⟨CL, hCL⟩ : ∃ z, z = lenOf L := ⟨_, rfl⟩
    have hl1 := lenOf_bd' hF.out
    have e1 : LF ≤ CL - ND := by omega
    have e0 : 0 ≤ ND := by omega
    have e2 : ND ≤ 30000 := by omega
    have e3 : CL ≤ 30000 := by omega
    have hC := Lib.hid (fun W h1 => implCoreLength_any A1 n1 c1 L W h1 (by omega))
    rw [coreLen_good HB.out, ← hCL] at hC
    rw [← hND] at hNeed
    have KE := Lib.hid (fun W X h1 h2 => @implCut_as A1 n1 c1 L X 0 0 [] kf W [] CL true h1 hc1 (by omega) h2 (by omega) (by rw [cutAll_ok HB.out rfl ⟨k0, k1⟩]; rfl) (by rw [cutAll_ok HB.out rfl ⟨k0, k1⟩, hCL]; rfl) (by rw [cutAll_ok HB.out rfl ⟨k0, k1⟩]; rfl))
    have wE : IntKind.i64.wrap (CL - ND) = CL - ND := IntWalk.i64_in _ (by omega)
    clear hE0 hSW hnb hLL hLF hND hCL hl1
    go_wp2_with fail
    refine (hC.out _ a15).mono ?_
    rintro e w6 ⟨rfl, b6⟩
    have B6 := B5.trans (b6.mono B5.size)
    have a16 := (a15.below' b6).more b6.size
    have a26 := (a25.below' b6).more b6.size
    clear b6 a15 a25 x35 B5 hC
    go_wp2_with fail
    refine (KE.out _ _ ((a16.alloc (Nat.le_refl _) _).more (by simp)) (Arr.nil_ _ _ _ _ _)).mono ?_
    rintro e w7 ⟨A7, n7, c7, rfl, o7, b7⟩
    have b7' : Below w6.heap.size w6 w7 := ((Below.refl w6.heap.size w6).alloc (Nat.le_refl _) _).trans (b7.mono (by simp))
    have B7 := B6.trans (b7'.mono B6.size)
    have a27 := (a26.below' b7').more b7'.size
    obtain rfl : n7 = 0 := o7.1.symm
    clear b7 b7' o7 a16 a26 B6 KE
    go_wp2_with fail
    refine (hNeed.out _ a27).mono ?_
    rintro e w8 ⟨rfl, b8⟩
    have B8 := B7.trans (b8.mono B7.size)
    clear b8
    go_wp2
    go_ret
    exact ⟨rfl, B8⟩
end Go.Proofs.Ytjhbpilgejbmjaa
