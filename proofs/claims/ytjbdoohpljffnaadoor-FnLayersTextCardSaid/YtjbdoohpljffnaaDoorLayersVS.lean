/-
  Contract: LayersValid of the reference.
-/
import Derived.Test.YtjbdoohpljffnaaDoorLayersP
namespace Go.Proofs.YtjbdoohpljffnaaDoor
open Go.RowKit
set_option linter.unusedSimpArgs false
set_option linter.unusedVariables false

set_option maxRecDepth 100000 in
set_option maxHeartbeats 2000000 in
theorem specLayersValid_any (A : Option Addr) (n c : Nat) (l : List Ly) (w : World) (h : Arr LL 2 w w.heap.size A n l) (hn : n ≤ 1099511627776) :
    Calls Tryd.prog 60 #[.slice A n c] w fun e w' => e = .returned (.bool (layB l)) ∧ Below w.heap.size w w' := by
  have hln := Lib.hid h.1
  go_enter Tryd.func60, Tryd.ntmps60
  go_wp2
  go_loopw [3] (fun i wr => ∃ (k : Nat) (a : Int), k ≤ n ∧ i = .int .i64 k ∧ -1 ≤ a ∧ (k = 0 → a = -1) ∧ (∀ j q, k = j + 1 → l[j]? = some q → a = q.1) ∧ Hid (layFrom a (l.drop k) = layFrom (-1) l) ∧ Below w.heap.size w wr) (fun i _ => n - (intOf i).toNat)
  case atStart => exact ⟨0, -1, Nat.zero_le _, rfl, Int.le_refl _, fun _ => rfl, fun j q e => by omega, Lib.hid rfl, Below.refl _ _⟩
  case round =>
    obtain ⟨k, a, hk, rfl, ha, hz, hp, hs, hb⟩ := hrel
    have hp' := Lib.hid hp
    have hz' := Lib.hid hz
    clear hp hz
    by_cases hlt : k < n
    · obtain ⟨b, off, x, s, rfl, hbB, hx, c1, c2⟩ := h.layer hlt
      have hx' := Lib.hid hx
      clear hx
      have c1' := (hb.cell (by exact hbB)).trans c1
      have c2' := (hb.cell (by exact hbB)).trans c2
      have ik : (k : Int) < (n : Int) := by omega
      have hsz := hb.size
      have D1 := Later.cell (w0 := wr) (B := w.heap.size) (by exact hbB) c1'
      clear c1 c2 c1' c2'
      cases hX : isD x with
      | false =>
        have hf := Lib.hid (lay_bad hs.out hx'.out (by have := isD_no hX; omega))
        have HX := Lib.hid (l11Depth_any x false hX)
        clear hX
        go_wp2_with fail
        refine wp_region_under (B := w.heap.size) (w0 := wr) (by kernel_rfl) (by kernel_rfl) (Below.refl _ _) ?_
        repeat (go_big_quiet_step ((first
          | (go_at_call 79; with_reducible exact Calls.underSame (HX.out _)))))
        refine wpQuiet_nil ?_
        rintro w2 ⟨u, hu⟩
        have hb2 := u.2
        rw [← hu] at hb2
        clear hu D1 
        go_wp2
        go_ret
        exact ⟨ret_bool hf.out.symm, hb.trans hb2⟩
      | true =>
        have HX := Lib.hid (l11Depth_any x true hX)
        have qx := (isD_iff x).1 hX
        clear hX
        rcases k with _ | j
        · obtain rfl := hz'.out rfl
          simp only [Nat.zero_mul, Nat.add_zero] at D1
          go_wp2_with fail
          refine wp_region_under (B := w.heap.size) (w0 := wr) (by kernel_rfl) (by kernel_rfl) (Below.refl _ _) ?_
          repeat (go_big_quiet_step ((first
            | (go_at_call 79; with_reducible exact Calls.underSame (HX.out _)))))
          refine wpQuiet_nil ?_
          rintro w2 ⟨u, hu⟩
          have hb2 := u.2
          rw [← hu] at hb2
          clear hu D1 
          go_wp2
          go_roundw
          case rel => exact ⟨1, x, by omega, by go_num, by omega, fun e => absurd e (by omega), fun j q e hj => (by
            obtain rfl : j = 0 := by omega
            rw [hx'.out] at hj
            cases hj
            rfl), Lib.hid (lay_good hs.out hx'.out (by omega)), hb.trans hb2⟩
          case measure => simp [intOf]; omega
        · obtain ⟨b', off', x', s', e, hbB', hx1, c3, c4⟩ := h.layer (k := j) (by omega)
          injection e with e; injection e with e1 e2; subst e1; subst e2
          obtain rfl : a = x' := hp'.out j _ rfl hx1
          have D3 := Later.cell (w0 := wr) (B := w.heap.size) (by exact hbB) ((hb.cell (by exact hbB)).trans c3)
          clear c3 c4 hx1
          have ik' : (j : Int) + 1 < (n : Int) := by omega
          have ij : (j : Int) < (n : Int) := by omega
          have Bj : 0 ≤ (j : Int) ∧ (j : Int) ≤ 4611686018427387904 := by omega
          have wj : wrap64 (j : Int) = (j : Int) := w64 Bj
          clear Bj
          by_cases hlo : x ≤ a
          · have g1 : decide (x ≤ a) = true := decide_eq_true hlo
            have hf := Lib.hid (lay_bad hs.out hx'.out (by omega))
            go_wp2_with fail
            refine wp_region_under (B := w.heap.size) (w0 := wr) (by kernel_rfl) (by kernel_rfl) (Below.refl _ _) ?_
            repeat (go_big_quiet_step ((first
              | (go_at_call 79; with_reducible exact Calls.underSame (HX.out _)))))
            refine wpQuiet_nil ?_
            rintro w2 ⟨u, hu⟩
            have hb2 := u.2
            rw [← hu] at hb2
            clear hu D1 D3 wj
            go_wp2
            go_ret
            exact ⟨ret_bool hf.out.symm, hb.trans hb2⟩
          · have g1 : decide (x ≤ a) = false := decide_eq_false hlo
            have hlo1 : a < x := by omega
            go_wp2_with fail
            refine wp_region_under (B := w.heap.size) (w0 := wr) (by kernel_rfl) (by kernel_rfl) (Below.refl _ _) ?_
            repeat (go_big_quiet_step ((first
              | (go_at_call 79; with_reducible exact Calls.underSame (HX.out _)))))
            refine wpQuiet_nil ?_
            rintro w2 ⟨u, hu⟩
            have hb2 := u.2
            rw [← hu] at hb2
            clear hu D1 D3 wj
            go_wp2
            go_roundw
            case rel => exact ⟨j + 1 + 1, x, by omega, by go_num, by omega, fun e => absurd e (by omega), fun i q e hi => (by
              obtain rfl : i = j + 1 := by omega
              rw [hx'.out] at hi
              cases hi
              rfl), Lib.hid (lay_good hs.out hx'.out (by omega)), hb.trans hb2⟩
            case measure => simp [intOf]; omega
    · have hg := Lib.hid (lay_end hs.out hln.out (by omega))
      by_cases h40 : n ≤ 40
      all_goals
        go_wp2
        go_ret
        exact ⟨ret_bool (by rw [hg.out]; simp; try omega), hb⟩
end Go.Proofs.YtjbdoohpljffnaaDoor
