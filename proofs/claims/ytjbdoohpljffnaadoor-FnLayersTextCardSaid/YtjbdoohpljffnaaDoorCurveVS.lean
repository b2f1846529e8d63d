/-
  Contract: CurveValid of the reference.
-/
import Derived.Test.YtjbdoohpljffnaaDoorCurveP
namespace Go.Proofs.YtjbdoohpljffnaaDoor
open Go.RowKit
set_option linter.unusedSimpArgs false
set_option linter.unusedVariables false

set_option maxRecDepth 100000 in
set_option maxHeartbeats 2000000 in
theorem specCurveValid_any (A : Option Addr) (n c : Nat) (l : List Pc) (w : World) (h : Arr PP 2 w w.heap.size A n l) (hn : n ≤ 1099511627776) :
    Calls Tryd.prog 49 #[.slice A n c] w fun e w' => e = .returned (.bool (curveB l)) ∧ Below w.heap.size w w' := by
  have hln := Lib.hid h.1
  go_enter Tryd.func49, Tryd.ntmps49
  go_wp2
  go_loopw [3] (fun i wr => ∃ (k : Nat) (a b : Int), k ≤ n ∧ i = .int .i64 k ∧ -1 ≤ a ∧ -1 ≤ b ∧ (k = 0 → a = -1 ∧ b = -1) ∧ (∀ j q, k = j + 1 → l[j]? = some q → a = q.1 ∧ b = q.2) ∧ Hid (curveFrom a b (l.drop k) = curveFrom (-1) (-1) l) ∧ Below w.heap.size w wr) (fun i _ => n - (intOf i).toNat)
  case atStart => exact ⟨0, -1, -1, Nat.zero_le _, rfl, Int.le_refl _, Int.le_refl _, fun _ => ⟨rfl, rfl⟩, fun j q e => by omega, Lib.hid rfl, Below.refl _ _⟩
  case round =>
    obtain ⟨k, a, b9, hk, rfl, ha, hb0, hz, hp, hs, hb⟩ := hrel
    have hp' := Lib.hid hp
    have hz' := Lib.hid hz
    clear hp hz
    by_cases hlt : k < n
    · obtain ⟨b, off, x, y, rfl, hbB, hx, c1, c2⟩ := h.pair hlt
      have hx' := Lib.hid hx
      clear hx
      have D1 := Later.cell (w0 := wr) (B := w.heap.size) (by exact hbB) ((hb.cell (by exact hbB)).trans c1)
      have D2 := Later.cell (w0 := wr) (B := w.heap.size) (by exact hbB) ((hb.cell (by exact hbB)).trans c2)
      have ik : (k : Int) < (n : Int) := by omega
      have hsz := hb.size
      clear c1 c2
      cases hX : isD x with
      | false =>
        have hf := Lib.hid (curve_bad hs.out hx'.out (by have := isD_no hX; omega))
        have HX := Lib.hid (l11Depth_any x false hX)
        clear hX
        go_wp2_with fail
        refine wp_region_under (B := w.heap.size) (w0 := wr) (by kernel_rfl) (by kernel_rfl) (Below.refl _ _) ?_
        repeat (go_big_quiet_step ((first
          | (go_at_call 79; with_reducible exact Calls.underSame (HX.out _)))))
        refine wpQuiet_nil ?_
        rintro w2 ⟨u, hu⟩
        have hb2 := u.2
        rw [← hu] at hb2
        clear hu D1 D2 
        go_wp2
        go_ret
        exact ⟨ret_bool hf.out.symm, hb.trans hb2⟩
      | true =>
        have HX := Lib.hid (l11Depth_any x true hX)
        have qx := (isD_iff x).1 hX
        clear hX
        cases hY : isD y with
        | false =>
          have hf := Lib.hid (curve_bad hs.out hx'.out (by have := isD_no hY; omega))
          have HY := Lib.hid (l11Depth_any y false hY)
          clear hY
          go_wp2_with fail
          refine wp_region_under (B := w.heap.size) (w0 := wr) (by kernel_rfl) (by kernel_rfl) (Below.refl _ _) ?_
          repeat (go_big_quiet_step ((first
            | (go_at_call 79; with_reducible exact Calls.underSame (HX.out _))
            | (go_at_call 79; with_reducible exact Calls.underSame (HY.out _)))))
          refine wpQuiet_nil ?_
          rintro w2 ⟨u, hu⟩
          have hb2 := u.2
          rw [← hu] at hb2
          clear hu D1 D2 
          go_wp2
          go_ret
          exact ⟨ret_bool hf.out.symm, hb.trans hb2⟩
        | true =>
          have HY := Lib.hid (l11Depth_any y true hY)
          have qy := (isD_iff y).1 hY
          clear hY
          rcases k with _ | j
          · obtain ⟨rfl, rfl⟩ := hz'.out rfl
            simp only [Nat.zero_mul, Nat.add_zero] at D1 D2
            go_wp2_with fail
            refine wp_region_under (B := w.heap.size) (w0 := wr) (by kernel_rfl) (by kernel_rfl) (Below.refl _ _) ?_
            repeat (go_big_quiet_step ((first
              | (go_at_call 79; with_reducible exact Calls.underSame (HX.out _))
              | (go_at_call 79; with_reducible exact Calls.underSame (HY.out _)))))
            refine wpQuiet_nil ?_
            rintro w2 ⟨u, hu⟩
            have hb2 := u.2
            rw [← hu] at hb2
            clear hu D1 D2 
            go_wp2
            go_roundw
            case rel => exact ⟨1, x, y, by omega, by go_num, by omega, by omega, fun e => absurd e (by omega), fun j q e hj => (by
              obtain rfl : j = 0 := by omega
              rw [hx'.out] at hj
              cases hj
              exact ⟨rfl, rfl⟩), Lib.hid (curve_good hs.out hx'.out (by omega)), hb.trans hb2⟩
            case measure => simp [intOf]; omega
          · obtain ⟨b', off', x', y', e, hbB', hx1, c3, c4⟩ := h.pair (k := j) (by omega)
            injection e with e; injection e with e1 e2; subst e1; subst e2
            obtain ⟨e3, e4⟩ : a = x' ∧ b9 = y' := hp'.out j _ rfl hx1
            subst e3; subst e4
            have D3 := Later.cell (w0 := wr) (B := w.heap.size) (by exact hbB) ((hb.cell (by exact hbB)).trans c3)
            have D4 := Later.cell (w0 := wr) (B := w.heap.size) (by exact hbB) ((hb.cell (by exact hbB)).trans c4)
            clear c3 c4 hx1
            have ik' : (j : Int) + 1 < (n : Int) := by omega
            have ij : (j : Int) < (n : Int) := by omega
            have Bj : 0 ≤ (j : Int) ∧ (j : Int) ≤ 4611686018427387904 := by omega
            have wj : wrap64 (j : Int) = (j : Int) := w64 Bj
            clear Bj
            by_cases hlo : x ≤ a
            · have g1 : decide (x ≤ a) = true := decide_eq_true hlo
              have hf := Lib.hid (curve_bad hs.out hx'.out (by omega))
              go_wp2_with fail
              refine wp_region_under (B := w.heap.size) (w0 := wr) (by kernel_rfl) (by kernel_rfl) (Below.refl _ _) ?_
              repeat (go_big_quiet_step ((first
                | (go_at_call 79; with_reducible exact Calls.underSame (HX.out _))
                | (go_at_call 79; with_reducible exact Calls.underSame (HY.out _)))))
              refine wpQuiet_nil ?_
              rintro w2 ⟨u, hu⟩
              have hb2 := u.2
              rw [← hu] at hb2
              clear hu D1 D2 D3 D4 wj
              go_wp2
              go_ret
              exact ⟨ret_bool hf.out.symm, hb.trans hb2⟩
            · have g1 : decide (x ≤ a) = false := decide_eq_false hlo
              by_cases hlo' : y ≤ b9
              · have g2 : decide (y ≤ b9) = true := decide_eq_true hlo'
                have hf := Lib.hid (curve_bad hs.out hx'.out (by omega))
                go_wp2_with fail
                refine wp_region_under (B := w.heap.size) (w0 := wr) (by kernel_rfl) (by kernel_rfl) (Below.refl _ _) ?_
                repeat (go_big_quiet_step ((first
                  | (go_at_call 79; with_reducible exact Calls.underSame (HX.out _))
                  | (go_at_call 79; with_reducible exact Calls.underSame (HY.out _)))))
                refine wpQuiet_nil ?_
                rintro w2 ⟨u, hu⟩
                have hb2 := u.2
                rw [← hu] at hb2
                clear hu D1 D2 D3 D4 wj
                go_wp2
                go_ret
                exact ⟨ret_bool hf.out.symm, hb.trans hb2⟩
              · have g2 : decide (y ≤ b9) = false := decide_eq_false hlo'
                have hlo1 : a < x := by omega
                have hlo2 : b9 < y := by omega
                go_wp2_with fail
                refine wp_region_under (B := w.heap.size) (w0 := wr) (by kernel_rfl) (by kernel_rfl) (Below.refl _ _) ?_
                repeat (go_big_quiet_step ((first
                  | (go_at_call 79; with_reducible exact Calls.underSame (HX.out _))
                  | (go_at_call 79; with_reducible exact Calls.underSame (HY.out _)))))
                refine wpQuiet_nil ?_
                rintro w2 ⟨u, hu⟩
                have hb2 := u.2
                rw [← hu] at hb2
                clear hu D1 D2 D3 D4 wj
                go_wp2
                go_roundw
                case rel => exact ⟨j + 1 + 1, x, y, by omega, by go_num, by omega, by omega, fun e => absurd e (by omega), fun i q e hi => (by
                  obtain rfl : i = j + 1 := by omega
                  rw [hx'.out] at hi
                  cases hi
                  exact ⟨rfl, rfl⟩), Lib.hid (curve_good hs.out hx'.out (by omega)), hb.trans hb2⟩
                case measure => simp [intOf]; omega
    · have hg := Lib.hid (curve_end hs.out hln.out (by omega))
      have HI := Lib.hid (l6In_any (n : Int) 2 12 (curveB l) (by rw [hg.out, Bool.eq_iff_iff]; simp; omega))
      go_wp2_with fail
      refine (HI.out _).mono ?_
      rintro e w' ⟨rfl, rfl⟩
      go_wp2
      go_ret
      exact ⟨rfl, hb⟩
end Go.Proofs.YtjbdoohpljffnaaDoor
