/-
  The walk of the law FnSampleJoin.
-/
import Derived.Test.YtjhbpilgejbmjaaCutHead
import Derived.Test.YtjhbpilgejbmjaaJoin
namespace Go.Proofs.Ytjhbpilgejbmjaa
open Go.RowKit
set_option linter.unusedSimpArgs false
set_option linter.unusedVariables false

set_option maxHeartbeats 2000000 in
theorem walk_FnSampleJoin (w : World) (A : Option Addr) (n c : Nat) (l : List Int) (h : Arr BB 1 w w.heap.size A n l) (hby : ∀ x ∈ l, 0 ≤ x ∧ x ≤ 255) (hc : n ≤ c) :
    Calls Try.prog 7 #[.slice A n c] w fun e w' => e = .returned (.bool true) ∧ Below w.heap.size w w' := by
  have C := Lib.hid (DrawSampleCut_any A n c l w h hby hc)
  clear hby h
  by_cases hb : 1048576 < n
  · go_enter Try.func7, Try.ntmps7
    go_wp2_with fail
    go_ret
    exact ⟨rfl, Below.refl _ _⟩
  go_enter Try.func7, Try.ntmps7
  go_wp2_with fail
  refine C.out.mono ?_
  rintro e w1 ⟨A1, n1, c1, L, A2, n2, c2, O, kf, rfl, o1, hn1, o2, hn2, b1⟩
  clear C
  have hc1 := o1.cap
  have hc2 := o2.cap
  have a1 := o1.arr PP_length
  have a2 := o2.arr PP_length
  clear o1 o2
  cases hr : cutAll L O kf with
  | none =>
    have K1 := Lib.hid (fun W h1 h2 => @implCut_as A1 n1 c1 L A2 n2 c2 O kf W [] 0 false h1 hc1 (by omega) h2 (by omega) (by rw [hr]; rfl) (by rw [hr]; rfl) (by rw [hr]; rfl))
    have K2 := Lib.hid (fun W h1 h2 => @specCut_as A1 n1 c1 L A2 n2 c2 O kf W [] 0 false h1 hc1 (by omega) h2 (by omega) (by rw [hr]; rfl) (by rw [hr]; rfl) (by rw [hr]; rfl))
    clear hr
    go_wp2_with fail
    refine (K1.out _ a1 a2).mono ?_
    rintro e w2 ⟨A3, n3, c3, rfl, o3, b2⟩
    have B2 := b1.trans (b2.mono b1.size)
    have a1' := (a1.below' b2).more b2.size
    have a2' := (a2.below' b2).more b2.size
    have x3 := o3.arr II_length
    clear o3 a1 a2 b1 b2 K1
    go_wp2_with fail
    refine (K2.out _ a1' a2').mono ?_
    rintro e w3 ⟨A4, n4, c4, rfl, o4, b3⟩
    have B3 := B2.trans (b3.mono B2.size)
    have HS := Lib.hid (sameInts_later (c := c3) (c' := c4) ((x3.below' b3).more b3.size) (o4.arr II_length))
    clear o4 b3 B2 a1' a2' x3 K2
    go_wp2_with fail
    refine (HS.out _ (Below.refl _ _)).mono ?_
    rintro e w4 ⟨rfl, b4⟩
    go_wp2_with fail
    refine (HS.out _ b4).mono ?_
    rintro e w5 ⟨rfl, b5⟩
    clear b4
    go_wp2
    go_ret
    exact ⟨rfl, B3.trans (b5.mono B3.size)⟩
  | some q =>
    obtain ⟨xs, M⟩ := q
    obtain ⟨LF, hLF⟩ : ∃ z, z = lenOf M := ⟨_, rfl⟩
    have K1 := Lib.hid (fun W h1 h2 => @implCut_as A1 n1 c1 L A2 n2 c2 O kf W xs LF true h1 hc1 (by omega) h2 (by omega) (by rw [hr]; rfl) (by rw [hr, hLF]; rfl) (by rw [hr]; rfl))
    have K2 := Lib.hid (fun W h1 h2 => @specCut_as A1 n1 c1 L A2 n2 c2 O kf W xs LF true h1 hc1 (by omega) h2 (by omega) (by rw [hr]; rfl) (by rw [hr, hLF]; rfl) (by rw [hr]; rfl))
    obtain ⟨hB, hO, ⟨k0, k1⟩, hcut⟩ := cutAll_some hr
    have hF := Lib.hid ((coreB_iff L).1 hB).1
    have hall := Lib.hid ((ordersB_iff O).1 hO).1
    have hCut := Lib.hid hcut
    have HB := Lib.hid hB
    have HO := Lib.hid hO
    have HLF := Lib.hid hLF
    have hgd := cutW_good k0 (fun x hx => (widths_all hall.out x hx).1) hF.out hcut
    have hlen := cutW_len k0 (fun x hx => (widths_all hall.out x hx).1) hF.out hcut
    have hlb := lenOf_bd' hF.out
    have hlm := lenOf_bd' hgd.1
    have hw160 := widths_bd hall.out
    have hl2 := a2.1
    have hl1 := a1.1
    have LF0 : 0 ≤ LF := by omega
    have LF1 : LF ≤ 30000 := by omega
    have hX : xs.length ≤ 200 := by omega
    have hXW := Lib.hid hgd.2.2
    have HL1 := Lib.hid hl1
    have HL2 := Lib.hid hl2
    have hLen := Lib.hid hlen
    clear hr hB hO hcut hLF hgd hlen hlb hlm hw160 hl1 hl2
    go_wp2_with fail
    refine (K1.out _ a1 a2).mono ?_
    rintro e w2 ⟨A3, n3, c3, rfl, o3, b2⟩
    have B2 := b1.trans (b2.mono b1.size)
    have a1' := (a1.below' b2).more b2.size
    have a2' := (a2.below' b2).more b2.size
    have x3 := o3.arr II_length
    have hc3 := o3.cap
    have hn3 := o3.1
    clear o3 a1 a2 b1 b2
    go_wp2_with fail
    refine (K2.out _ a1' a2').mono ?_
    rintro e w3 ⟨A4, n4, c4, rfl, o4, b3⟩
    have B3 := B2.trans (b3.mono B2.size)
    have a1 := (a1'.below' b3).more b3.size
    have a2 := (a2'.below' b3).more b3.size
    have x3' := (x3.below' b3).more b3.size
    have HS := Lib.hid (sameInts_later (c := c3) (c' := c4) x3' (o4.arr II_length))
    clear o4 b3 B2 a1' a2' x3 K2
    go_wp2_with fail
    refine (HS.out _ (Below.refl _ _)).mono ?_
    rintro e w5 ⟨rfl, b5⟩
    have B5 := B3.trans (b5.mono B3.size)
    have a15 := (a1.below' b5).more b5.size
    have a25 := (a2.below' b5).more b5.size
    have x35 := (x3'.below' b5).more b5.size
    clear HS B3 b5 a1 a2 x3'
    obtain rfl : xs.length = n3 := hn3
    have J := fun W h1 => implJoin_any A1 n1 c1 L W h1 (by omega)
    rw [HB.out, show joinR L = joinL L by unfold joinR; rw [HB.out]; rfl] at J
    have J' := Lib.hid J
    have hJB := joinL_good HB.out
    have hJl := ((coreB_iff _).1 hJB).2
    have HJB := Lib.hid hJB
    clear J hJB K1
    go_wp2_with fail
    refine (J'.out _ a15).mono ?_
    rintro e w6 ⟨A6, n6, c6, rfl, o6, b6⟩
    have B6 := B5.trans (b6.mono B5.size)
    have a26 := (a25.below' b6).more b6.size
    have x36 := (x35.below' b6).more b6.size
    have a6 := o6.arr PP_length
    have hc6 := o6.cap
    have hn6 : n6 ≤ 20 := by rw [← o6.1]; exact hJl
    clear o6 b6 a15 a25 x35 B5 J'
    by_cases hn21 : n2 = 1
    · subst hn21
      obtain ⟨b, off, wd, y, rfl, hbB, hx, d1, d2⟩ := a26.pair (k := 0) (by omega)
      simp only [Nat.zero_mul, Nat.add_zero] at d1 d2
      have hOL : O = [(wd, y)] := by
        match O, HL2.out, hx with
        | [p], _, hx => simp at hx; rw [hx]
      by_cases hy : y = 1
      · subst hy
        have hok := (okOrder_iff wd 1).1 (List.all_eq_true.1 hall.out _ (by rw [hOL]; exact List.mem_cons_self ..))
        have hcut := hCut.out
        rw [hOL, show widths [(wd, 1)] = [wd] by simp [widths]] at hcut
        obtain ⟨x0, M1, ys, e1, e2, e3⟩ := cutW_cons hcut
        have hys : ys = [] := by simp only [cutW, Option.some.injEq, Prod.mk.injEq] at e2; exact e2.1.symm
        subst hys
        obtain ⟨y0, l2, hle, e4⟩ := joinL_cut hok.1 k0 hF.out e1
        have hAll : cutAll (joinL L) O kf = some ([y0], l2) := by
          rw [cutAll_ok HJB.out HO.out ⟨k0, k1⟩, hOL, show widths [(wd, 1)] = [wd] by simp [widths]]
          simp only [cutW, e4]
        have K3 := Lib.hid (fun W h1 h2 => @implCut_as A6 n6 c6 (joinL L) (some ⟨b, off, none⟩) 1 c2 O kf W [y0] (lenOf l2) true h1 hc6 (by omega) h2 (by omega) (by rw [hAll]; rfl) (by rw [hAll]; rfl) (by rw [hAll]; rfl))
        subst e3
        clear hAll e4 e2 e1 hcut hok hOL hx
        go_wp2_with fail
        refine (K3.out _ a6 a26).mono ?_
        rintro e w7 ⟨A7, n7, c7, rfl, o7, b7⟩
        have B7 := B6.trans (b7.mono B6.size)
        have x37 := (x36.below' b7).more b7.size
        have x7 := o7.arr II_length
        obtain rfl : 1 = n7 := o7.1
        obtain ⟨p1, q1, z1, rfl, _, hz1, g1⟩ := x7.int (k := 0) (by omega)
        obtain ⟨p2, q2, z2, rfl, _, hz2, g2⟩ := x37.int (k := 0) (by simp)
        simp at hz1 hz2
        subst hz1; subst hz2
        rw [Nat.add_zero] at g1 g2
        have gd : decide (y0 ≤ x0) = true := decide_eq_true hle
        clear o7 b7 x36 x37 x7 a6 a26 B6 K3
        go_wp2_with fail
        go_quiet (fail)
        have B8 := below_drewN B7 nq
        clear g1 g2 gd
        go_wp2
        go_ret
        exact ⟨rfl, B8⟩
      · have g0 : (y != 1) = true := by simp [hy]
        go_wp2
        go_ret
        exact ⟨rfl, B6⟩
    · have g0 : ((n2 : Int) != 1) = true := by simp; omega
      go_wp2
      go_ret
      exact ⟨rfl, B6⟩
end Go.Proofs.Ytjhbpilgejbmjaa
