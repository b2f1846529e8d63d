/-
  The walk of the law FnSampleFirst.
-/
import Derived.Test.YtjhbpilgejbmjaaCutHead
namespace Go.Proofs.Ytjhbpilgejbmjaa
open Go.RowKit
set_option linter.unusedSimpArgs false
set_option linter.unusedVariables false

set_option maxHeartbeats 2000000 in
theorem walk_FnSampleFirst (w : World) (A : Option Addr) (n c : Nat) (l : List Int) (h : Arr BB 1 w w.heap.size A n l) (hby : ∀ x ∈ l, 0 ≤ x ∧ x ≤ 255) (hc : n ≤ c) (A' : Option Addr) (n' c' : Nat) (l' : List Int) (h' : Arr BB 1 w w.heap.size A' n' l') (hby' : ∀ x ∈ l', 0 ≤ x ∧ x ≤ 255) (hc' : n' ≤ c') :
    Calls Try.prog 4 #[.slice A n c, .slice A' n' c'] w fun e w' => e = .returned (.bool true) ∧ Below w.heap.size w w' := by
  clear h' hby'
  have C := Lib.hid (DrawSampleCut_any A n c l w h hby hc)
  clear hby h
  by_cases hb : 1048576 < n
  · go_enter Try.func4, Try.ntmps4
    go_wp2_with fail
    go_ret
    exact ⟨rfl, Below.refl _ _⟩
  by_cases hb' : 1048576 < n'
  · go_enter Try.func4, Try.ntmps4
    go_wp2_with fail
    go_ret
    exact ⟨rfl, Below.refl _ _⟩
  go_enter Try.func4, Try.ntmps4
  go_wp2_with fail
  refine C.out.mono ?_
  rintro e w1 ⟨A1, n1, c1, L, A2, n2, c2, O, kf, rfl, o1, hn1, o2, hn2, b1⟩
  clear C
  have hc1 := o1.cap
  have hc2 := o2.cap
  have a1 := o1.arr PP_length
  have a2 := o2.arr PP_length
  clear o1 o2
  cases hr : cutAll L O kf with
  | none =>
    have K1 := Lib.hid (fun W h1 h2 => @implCut_as A1 n1 c1 L A2 n2 c2 O kf W [] 0 false h1 hc1 (by omega) h2 (by omega) (by rw [hr]; rfl) (by rw [hr]; rfl) (by rw [hr]; rfl))
    have K2 := Lib.hid (fun W h1 h2 => @specCut_as A1 n1 c1 L A2 n2 c2 O kf W [] 0 false h1 hc1 (by omega) h2 (by omega) (by rw [hr]; rfl) (by rw [hr]; rfl) (by rw [hr]; rfl))
    clear hr
    go_wp2_with fail
    refine (K1.out _ a1 a2).mono ?_
    rintro e w2 ⟨A3, n3, c3, rfl, o3, b2⟩
    have B2 := b1.trans (b2.mono b1.size)
    have a1' := (a1.below' b2).more b2.size
    have a2' := (a2.below' b2).more b2.size
    have x3 := o3.arr II_length
    clear o3 a1 a2 b1 b2 K1
    go_wp2_with fail
    refine (K2.out _ a1' a2').mono ?_
    rintro e w3 ⟨A4, n4, c4, rfl, o4, b3⟩
    have B3 := B2.trans (b3.mono B2.size)
    have HS := Lib.hid (sameInts_later (c := c3) (c' := c4) ((x3.below' b3).more b3.size) (o4.arr II_length))
    clear o4 b3 B2 a1' a2' x3 K2
    go_wp2_with fail
    refine (HS.out _ (Below.refl _ _)).mono ?_
    rintro e w4 ⟨rfl, b4⟩
    go_wp2_with fail
    refine (HS.out _ b4).mono ?_
    rintro e w5 ⟨rfl, b5⟩
    clear b4
    go_wp2
    go_ret
    exact ⟨rfl, B3.trans (b5.mono B3.size)⟩
  | some q =>
    obtain ⟨xs, M⟩ := q
    obtain ⟨LF, hLF⟩ : ∃ z, z = lenOf M := ⟨_, rfl⟩
    have K1 := Lib.hid (fun W h1 h2 => @implCut_as A1 n1 c1 L A2 n2 c2 O kf W xs LF true h1 hc1 (by omega) h2 (by omega) (by rw [hr]; rfl) (by rw [hr, hLF]; rfl) (by rw [hr]; rfl))
    have K2 := Lib.hid (fun W h1 h2 => @specCut_as A1 n1 c1 L A2 n2 c2 O kf W xs LF true h1 hc1 (by omega) h2 (by omega) (by rw [hr]; rfl) (by rw [hr, hLF]; rfl) (by rw [hr]; rfl))
    obtain ⟨hB, hO, ⟨k0, k1⟩, hcut⟩ := cutAll_some hr
    have hF := Lib.hid ((coreB_iff L).1 hB).1
    have hall := Lib.hid ((ordersB_iff O).1 hO).1
    have hCut := Lib.hid hcut
    have HB := Lib.hid hB
    have HO := Lib.hid hO
    have HLF := Lib.hid hLF
    have hgd := cutW_good k0 (fun x hx => (widths_all hall.out x hx).1) hF.out hcut
    have hlen := cutW_len k0 (fun x hx => (widths_all hall.out x hx).1) hF.out hcut
    have hlb := lenOf_bd' hF.out
    have hlm := lenOf_bd' hgd.1
    have hw160 := widths_bd hall.out
    have hl2 := a2.1
    have hl1 := a1.1
    have LF0 : 0 ≤ LF := by omega
    have LF1 : LF ≤ 30000 := by omega
    have hX : xs.length ≤ 200 := by omega
    have hXW := Lib.hid hgd.2.2
    have HL1 := Lib.hid hl1
    have HL2 := Lib.hid hl2
    have hLen := Lib.hid hlen
    clear hr hB hO hcut hLF hgd hlen hlb hlm hw160 hl1 hl2
    go_wp2_with fail
    refine (K1.out _ a1 a2).mono ?_
    rintro e w2 ⟨A3, n3, c3, rfl, o3, b2⟩
    have B2 := b1.trans (b2.mono b1.size)
    have a1' := (a1.below' b2).more b2.size
    have a2' := (a2.below' b2).more b2.size
    have x3 := o3.arr II_length
    have hc3 := o3.cap
    have hn3 := o3.1
    clear o3 a1 a2 b1 b2
    go_wp2_with fail
    refine (K2.out _ a1' a2').mono ?_
    rintro e w3 ⟨A4, n4, c4, rfl, o4, b3⟩
    have B3 := B2.trans (b3.mono B2.size)
    have a1 := (a1'.below' b3).more b3.size
    have a2 := (a2'.below' b3).more b3.size
    have x3' := (x3.below' b3).more b3.size
    have HS := Lib.hid (sameInts_later (c := c3) (c' := c4) x3' (o4.arr II_length))
    clear o4 b3 B2 a1' a2' x3 K2
    go_wp2_with fail
    refine (HS.out _ (Below.refl _ _)).mono ?_
    rintro e w5 ⟨rfl, b5⟩
    have B5 := B3.trans (b5.mono B3.size)
    have a15 := (a1.below' b5).more b5.size
    have a25 := (a2.below' b5).more b5.size
    have x35 := (x3'.below' b5).more b5.size
    clear HS B3 b5 a1 a2 x3'
    obtain rfl : xs.length = n3 := hn3
    obtain ⟨k, hk⟩ : ∃ k, k = n' % (n2 + 1) := ⟨_, rfl⟩
    have hkn : k ≤ n2 := by have := Nat.mod_lt n' (show 0 < n2 + 1 by omega); omega
    have hkE : ((n' : Int) % ((n2 : Int) + 1)) = (k : Int) := by rw [hk]; simp
    have hpk : (O.take k).all okOrder = true := by rw [List.all_eq_true]; intro x hx; exact List.all_eq_true.1 hall.out x (List.mem_of_mem_take hx)
    have hpd : (O.drop k).all okOrder = true := by rw [List.all_eq_true]; intro x hx; exact List.all_eq_true.1 hall.out x (List.mem_of_mem_drop hx)
    have hsp : widths O = widths (O.take k) ++ widths (O.drop k) := by simp only [widths, ← List.flatMap_append, List.take_append_drop]
    have hcut := hCut.out
    rw [hsp] at hcut
    obtain ⟨ys, M', e1, e2, e3, e4⟩ := cutW_part k0 (fun x hx => (widths_all hpd x hx).1) (fun x hx => (widths_all hpk x hx).1) hF.out hcut
    have hok : ordersB (O.take k) = true := by
      rw [ordersB_iff]
      refine ⟨hpk, ?_⟩
      have := ((ordersB_iff O).1 HO.out).2
      rw [List.length_take]; omega
    have hAll : cutAll L (O.take k) kf = some (ys, M') := by rw [cutAll_ok HB.out hok ⟨k0, k1⟩]; exact e1
    obtain ⟨LG, hLG⟩ : ∃ z, z = lenOf M' := ⟨_, rfl⟩
    have hle : LF ≤ LG := by have := HLF.out; omega
    have K3 := Lib.hid (fun W h1 h2 => @implCut_as A1 n1 c1 L A2 k c2 (O.take k) kf W ys LG true h1 hc1 (by omega) h2 (by omega) (by rw [hAll]; rfl) (by rw [hAll, hLG]; rfl) (by rw [hAll]; rfl))
    have HT := Lib.hid e3
    have hkc : k ≤ c2 := by omega
    have i1 : (k : Int) ≤ (c2 : Int) := by omega
    have i3 : (0 : Int) ≤ (k : Int) := by omega
    have i2 : (k : Int) ≤ (n2 : Int) := by omega
    clear hk hpk hpd hsp hcut e1 e3 e4 hok hAll hLG K1
    go_wp2_with fail
    refine (K3.out _ a15 (a25.take hkn)).mono ?_
    rintro e w6 ⟨A6, n6, c6, rfl, o6, b6⟩
    have B6 := B5.trans (b6.mono B5.size)
    have x36 := (x35.below' b6).more b6.size
    obtain rfl : ys.length = n6 := o6.1
    have x37 := x36.take (k := ys.length) e2
    rw [HT.out] at x37
    have HS := Lib.hid (sameInts_later (c := c6) (c' := c3) (o6.arr II_length) x37)
    have j1 : (ys.length : Int) ≤ (xs.length : Int) := by omega
    have j2 : ys.length ≤ c3 := by omega
    have j3 : (ys.length : Int) ≤ (c3 : Int) := by omega
    clear o6 b6 x36 x37 x35 a15 a25 B5
    go_wp2_with fail
    refine (HS.out _ (Below.refl _ _)).mono ?_
    rintro e w7 ⟨rfl, b7⟩
    have B7 := B6.trans (b7.mono B6.size)
    clear b7
    go_wp2
    go_ret
    exact ⟨rfl, B7⟩
end Go.Proofs.Ytjhbpilgejbmjaa
