/-
  The walk of the law FnSampleThin.
-/
import Derived.Test.YtjhbpilgejbmjaaCutHead
import Derived.Test.YtjhbpilgejbmjaaWidths
namespace Go.Proofs.Ytjhbpilgejbmjaa
open Go.RowKit
set_option linter.unusedSimpArgs false
set_option linter.unusedVariables false

set_option maxHeartbeats 2000000 in
theorem walk_FnSampleThin (w : World) (A : Option Addr) (n c : Nat) (l : List Int) (h : Arr BB 1 w w.heap.size A n l) (hby : ∀ x ∈ l, 0 ≤ x ∧ x ≤ 255) (hc : n ≤ c) :
    Calls Try.prog 6 #[.slice A n c] w fun e w' => e = .returned (.bool true) ∧ Below w.heap.size w w' := by
  have C := Lib.hid (DrawSampleCut_any A n c l w h hby hc)
  clear hby h
  by_cases hb : 1048576 < n
  · go_enter Try.func6, Try.ntmps6
    go_wp2_with fail
    go_ret
    exact ⟨rfl, Below.refl _ _⟩
  go_enter Try.func6, Try.ntmps6
  go_wp2_with fail
  refine C.out.mono ?_
  rintro e w1 ⟨A1, n1, c1, L, A2, n2, c2, O, kf, rfl, o1, hn1, o2, hn2, b1⟩
  clear C
  have hc1 := o1.cap
  have hc2 := o2.cap
  have a1 := o1.arr PP_length
  have a2 := o2.arr PP_length
  clear o1 o2
  cases hr : cutAll L O kf with
  | none =>
    have K1 := Lib.hid (fun W h1 h2 => @implCut_as A1 n1 c1 L A2 n2 c2 O kf W [] 0 false h1 hc1 (by omega) h2 (by omega) (by rw [hr]; rfl) (by rw [hr]; rfl) (by rw [hr]; rfl))
    have K2 := Lib.hid (fun W h1 h2 => @specCut_as A1 n1 c1 L A2 n2 c2 O kf W [] 0 false h1 hc1 (by omega) h2 (by omega) (by rw [hr]; rfl) (by rw [hr]; rfl) (by rw [hr]; rfl))
    clear hr
    go_wp2_with fail
    refine (K1.out _ a1 a2).mono ?_
    rintro e w2 ⟨A3, n3, c3, rfl, o3, b2⟩
    have B2 := b1.trans (b2.mono b1.size)
    have a1' := (a1.below' b2).more b2.size
    have a2' := (a2.below' b2).more b2.size
    have x3 := o3.arr II_length
    clear o3 a1 a2 b1 b2 K1
    go_wp2_with fail
    refine (K2.out _ a1' a2').mono ?_
    rintro e w3 ⟨A4, n4, c4, rfl, o4, b3⟩
    have B3 := B2.trans (b3.mono B2.size)
    have HS := Lib.hid (sameInts_later (c := c3) (c' := c4) ((x3.below' b3).more b3.size) (o4.arr II_length))
    clear o4 b3 B2 a1' a2' x3 K2
    go_wp2_with fail
    refine (HS.out _ (Below.refl _ _)).mono ?_
    rintro e w4 ⟨rfl, b4⟩
    go_wp2_with fail
    refine (HS.out _ b4).mono ?_
    rintro e w5 ⟨rfl, b5⟩
    clear b4
    go_wp2
    go_ret
    exact ⟨rfl, B3.trans (b5.mono B3.size)⟩
  | some q =>
    obtain ⟨xs, M⟩ := q
    obtain ⟨LF, hLF⟩ : ∃ z, z = lenOf M := ⟨_, rfl⟩
    have K1 := Lib.hid (fun W h1 h2 => @implCut_as A1 n1 c1 L A2 n2 c2 O kf W xs LF true h1 hc1 (by omega) h2 (by omega) (by rw [hr]; rfl) (by rw [hr, hLF]; rfl) (by rw [hr]; rfl))
    have K2 := Lib.hid (fun W h1 h2 => @specCut_as A1 n1 c1 L A2 n2 c2 O kf W xs LF true h1 hc1 (by omega) h2 (by omega) (by rw [hr]; rfl) (by rw [hr, hLF]; rfl) (by rw [hr]; rfl))
    obtain ⟨hB, hO, ⟨k0, k1⟩, hcut⟩ := cutAll_some hr
    have hF := Lib.hid ((coreB_iff L).1 hB).1
    have hall := Lib.hid ((ordersB_iff O).1 hO).1
    have hCut := Lib.hid hcut
    have HB := Lib.hid hB
    have HO := Lib.hid hO
    have HLF := Lib.hid hLF
    have hgd := cutW_good k0 (fun x hx => (widths_all hall.out x hx).1) hF.out hcut
    have hlen := cutW_len k0 (fun x hx => (widths_all hall.out x hx).1) hF.out hcut
    have hlb := lenOf_bd' hF.out
    have hlm := lenOf_bd' hgd.1
    have hw160 := widths_bd hall.out
    have hl2 := a2.1
    have hl1 := a1.1
    have LF0 : 0 ≤ LF := by omega
    have LF1 : LF ≤ 30000 := by omega
    have hX : xs.length ≤ 200 := by omega
    have hXW := Lib.hid hgd.2.2
    have HL1 := Lib.hid hl1
    have HL2 := Lib.hid hl2
    have hLen := Lib.hid hlen
    clear hr hB hO hcut hLF hgd hlen hlb hlm hw160 hl1 hl2
    go_wp2_with fail
    refine (K1.out _ a1 a2).mono ?_
    rintro e w2 ⟨A3, n3, c3, rfl, o3, b2⟩
    have B2 := b1.trans (b2.mono b1.size)
    have a1' := (a1.below' b2).more b2.size
    have a2' := (a2.below' b2).more b2.size
    have x3 := o3.arr II_length
    have hc3 := o3.cap
    have hn3 := o3.1
    clear o3 a1 a2 b1 b2
    go_wp2_with fail
    refine (K2.out _ a1' a2').mono ?_
    rintro e w3 ⟨A4, n4, c4, rfl, o4, b3⟩
    have B3 := B2.trans (b3.mono B2.size)
    have a1 := (a1'.below' b3).more b3.size
    have a2 := (a2'.below' b3).more b3.size
    have x3' := (x3.below' b3).more b3.size
    have HS := Lib.hid (sameInts_later (c := c3) (c' := c4) x3' (o4.arr II_length))
    clear o4 b3 B2 a1' a2' x3 K2
    go_wp2_with fail
    refine (HS.out _ (Below.refl _ _)).mono ?_
    rintro e w5 ⟨rfl, b5⟩
    have B5 := B3.trans (b5.mono B3.size)
    have a15 := (a1.below' b5).more b5.size
    have a25 := (a2.below' b5).more b5.size
    have x35 := (x3'.below' b5).more b5.size
    clear HS B3 b5 a1 a2 x3'
    obtain rfl : xs.length = n3 := hn3
    have W5 := Lib.hid (widthsOf_any A2 n2 c2 O _ a25 hall.out (by omega))
    go_wp2_with fail
    refine W5.out.mono ?_
    rintro e w6 ⟨A6, c6, rfl, o6, b6⟩
    have B6 := B5.trans (b6.mono B5.size)
    have a16 := (a15.below' b6).more b6.size
    have a26 := (a25.below' b6).more b6.size
    have x6 := o6.arr II_length
    have hwm := Lib.hid (widths_all hall.out)
    obtain ⟨W, hW⟩ : ∃ W, W = widths O := ⟨_, rfl⟩
    have HWW := Lib.hid hW
    have hWl : W.length = xs.length := by rw [hW]; exact hXW.out.symm
    have hW2 : W.length ≤ 200 := by omega
    rw [← hW] at x6 hwm ⊢
    obtain ⟨N, hN⟩ : ∃ N, N = W.length := ⟨_, rfl⟩
    rw [← hN] at x6 hWl hW2 ⊢
    have HN := Lib.hid hN
    have HWL := Lib.hid hWl
    clear o6 b6 a15 a25 x35 B5 W5 hW hN hWl K1
    go_wp2
    go_loopw [13] (fun i wr => ∃ k : Nat, k ≤ N ∧ i = .int .i64 k ∧ Hid (∀ j x x0, j < k → W[j]? = some x → W[0]? = some x0 → x = x0) ∧ (0 < k → ¬ kf = 0) ∧ Below w6.heap.size w6 wr) (fun i _ => N - (intOf i).toNat)
    case atStart => exact ⟨0, Nat.zero_le _, rfl, fun j x x0 hj => by omega, fun h => by omega, Below.refl _ _⟩
    case round =>
      obtain ⟨k, hk, rfl, hEq, hkz, hb⟩ := hrel
      by_cases hlt : k < N
      · obtain ⟨b, off, x, rfl, hbB, hx, c1'⟩ := x6.int hlt
        obtain ⟨b', off', x0, e, _, hx0, c0'⟩ := x6.int (k := 0) (by omega)
        injection e with e; injection e with e1 e2; subst e1; subst e2
        rw [Nat.add_zero] at c0'
        have d1 := (hb.cell (by exact hbB)).trans c1'
        have d0 := (hb.cell (by exact hbB)).trans c0'
        have ik : (k : Int) < (N : Int) := by omega
        have ik0 : (0 : Int) < (N : Int) := by omega
        have HX := Lib.hid hx
        have HX0 := Lib.hid hx0
        have HKZ := Lib.hid hkz
        clear hx hx0 c1' c0' hkz
        by_cases he : x = x0
        · subst he
          have g0 : (x != x) = false := by simp
          by_cases hk0 : kf = 0
          · subst hk0
            have g1 : ((0 : Int) == 0) = true := rfl
            go_wp2_with fail
            go_quiet (fail)
            have hb2 := below_drewN hb nq
            clear g0 g1
            go_wp2
            go_ret
            exact ⟨rfl, B6.trans (hb2.mono B6.size)⟩
          · have g1 : (kf == 0) = false := by simp [hk0]
            go_wp2_with fail
            go_quiet (fail)
            have hb2 := below_drewN hb nq
            clear g0 g1
            go_wp2
            go_roundw
            case rel => exact ⟨k + 1, by omega, by go_num, fun j y y0 hj hy hy0 => by
              rcases Nat.lt_or_ge j k with h1 | h1
              · exact hEq.out j y y0 h1 hy hy0
              · obtain rfl : j = k := by omega
                rw [HX.out] at hy; rw [HX0.out] at hy0
                cases hy; cases hy0; rfl, fun _ => hk0, hb2⟩
            case measure => simp [intOf]; omega
        · have g0 : (x != x0) = true := by simp [he]
          have gl : LF ≥ 0 := LF0
          go_wp2_with fail
          go_quiet (fail)
          have hb2 := below_drewN hb nq
          clear g0
          go_wp2
          go_ret
          exact ⟨rfl, B6.trans (hb2.mono B6.size)⟩
      · obtain rfl : k = N := by omega
        have a17 := (a16.below' hb).more hb.size
        have a27 := (a26.below' hb).more hb.size
        have B7 := B6.trans (hb.mono B6.size)
        by_cases hk0 : kf = 0
        · subst hk0
          have K3 := Lib.hid (fun W h1 h2 => @implCut_as A1 n1 c1 L A2 n2 c2 O (-1) W [] 0 false h1 hc1 (by omega) h2 (by omega) (by rw [cutAll_bad (by omega)]; rfl) (by rw [cutAll_bad (by omega)]; rfl) (by rw [cutAll_bad (by omega)]; rfl))
          go_wp2_with fail
          refine (K3.out _ a17 a27).mono ?_
          rintro e w8 ⟨A8, n8, c8, rfl, o8, b8⟩
          have B8 := B7.trans (b8.mono B7.size)
          clear o8 b8
          go_wp2
          go_ret
          exact ⟨rfl, B8⟩
        · have hthin : (cutW (kf - 1) (widths O) L).isSome = true := by
            have hs : (cutW kf (widths O) L).isSome = true := by rw [hCut.out]; rfl
            rw [← HWW.out] at hs ⊢
            cases hWc : W with
            | nil => rfl
            | cons x0 t =>
              rw [hWc] at hs
              refine cutW_thin (w := x0) (by omega) (fun x hx => ?_) ((hwm.out x0 (by rw [hWc]; exact List.mem_cons_self ..)).1) hF.out hs
              obtain ⟨j, hj⟩ := List.mem_iff_getElem?.1 hx
              have hjl : j < k := by rw [HN.out, hWc]; exact (List.getElem?_eq_some_iff.1 hj).1
              exact hEq.out j x x0 hjl (by rw [hWc]; exact hj) (by rw [hWc]; rfl)
          obtain ⟨⟨ys, M'⟩, hq⟩ := Option.isSome_iff_exists.1 hthin
          have hyl : ys.length = xs.length := by
            have := (cutW_good (kf := kf - 1) (by omega) (fun x hx => (widths_all hall.out x hx).1) hF.out hq).2.2
            rw [this]; exact hXW.out.symm
          have hAll : cutAll L O (kf - 1) = some (ys, M') := by rw [cutAll_ok HB.out HO.out ⟨by omega, by omega⟩]; exact hq
          have K3 := Lib.hid (fun W h1 h2 => @implCut_as A1 n1 c1 L A2 n2 c2 O (kf - 1) W ys (lenOf M') true h1 hc1 (by omega) h2 (by omega) (by rw [hAll]; rfl) (by rw [hAll]; rfl) (by rw [hAll]; rfl))
          have g1 : (kf == 0) = false := by simp [hk0]
          have HYL := Lib.hid hyl
          clear hthin hq hAll hyl hk0 hkz
          go_wp2_with fail
          refine (K3.out _ a17 a27).mono ?_
          rintro e w8 ⟨A8, n8, c8, rfl, o8, b8⟩
          have B8 := B7.trans (b8.mono B7.size)
          obtain rfl : n8 = xs.length := o8.1.symm.trans HYL.out
          clear o8 b8
          go_wp2
          go_ret
          exact ⟨rfl, B8⟩
end Go.Proofs.Ytjhbpilgejbmjaa
