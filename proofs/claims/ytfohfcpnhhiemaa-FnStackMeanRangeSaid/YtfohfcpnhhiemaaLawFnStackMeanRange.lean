/-
  The walk of the law FnStackMeanRange.
-/
import Derived.Test.YtfohfcpnhhiemaaMeans
import Derived.Test.YtfohfcpnhhiemaaFracs
import Derived.Test.YtfohfcpnhhiemaaDrawStacks
import Derived.Test.YtfohfcpnhhiemaaPlainG
namespace Go.Proofs.Ytfohfcpnhhiemaa
open Go.RowKit
set_option linter.unusedSimpArgs false
set_option linter.unusedVariables false

set_option maxRecDepth 100000 in
set_option maxHeartbeats 4000000 in
theorem walk_FnStackMeanRange (w : World) (A : Option Addr) (n c : Nat) (l : List Int) (h : Arr BB 1 w w.heap.size A n l) (hby : ∀ x ∈ l, 0 ≤ x ∧ x ≤ 255) (hc : n ≤ c) :
    Calls Try.prog 7 #[.slice A n c] w fun e w' => e = .returned (.bool true) ∧ Below w.heap.size w w' := by
  have C := Lib.hid (DrawStackMean_any A n c l w h hby hc)
  clear hby h
  by_cases hb : 1048576 < n
  · go_enter Try.func7, Try.ntmps7
    go_wp2_with fail
    go_ret
    exact ⟨rfl, Below.refl _ _⟩
  go_enter Try.func7, Try.ntmps7
  go_wp2_with fail
  refine C.out.mono ?_
  rintro e w1 ⟨A1, n1, c1, vs, R, rfl, ho, hc1, hn1, hR, b1⟩
  have a1 := ho.rows
  have hR' := Lib.hid (fun (r : List Int) (hr : r ∈ R) => show r.length ≤ 1099511627776 by have := hR r hr; omega)
  have HR10 := Lib.hid hR
  clear C ho hR
  have K1 := Lib.hid (fun W h1 => implMean_any A1 n1 c1 R W h1 (by omega) hR'.out)
  have K2 := Lib.hid (fun W h1 => specMean_any A1 n1 c1 R W h1 (by omega) hR'.out)
  cases hB : stackB R with
  | false =>
    rw [hB, show meansR R = [] by unfold meansR; rw [hB]; rfl] at K1 K2
    clear hB
    go_wp2_with fail
    refine (K1.out _ a1).mono ?_
    rintro e w2 ⟨A2, m2, c2, rfl, o2, b2⟩
    have B2 := b1.trans (b2.mono b1.size)
    have a2 := (a1.below' b2).more b2.size
    have x2 := o2.arr PP_length
    clear a1 b1 b2 o2
    go_wp2_with fail
    refine (K2.out _ a2).mono ?_
    rintro e w3 ⟨A3, m3, c3, rfl, o3, b3⟩
    have B3 := B2.trans (b3.mono B2.size)
    have HS := Lib.hid (sameFracs_later (c := c2) (c' := c3) ((x2.below' b3).more b3.size) (o3.arr PP_length))
    clear a2 b3 B2 x2 o3 K1 K2
    go_wp2_with fail
    refine (HS.out _ (Below.refl _ _)).mono ?_
    rintro e w4 ⟨rfl, b4⟩
    go_wp2_with fail
    refine (HS.out _ b4).mono ?_
    rintro e w5 ⟨rfl, b5⟩
    clear b4
    go_wp2
    go_ret
    exact ⟨rfl, B3.trans (b5.mono B3.size)⟩
  | true =>
    rw [hB, show meansR R = means R (wid R) by unfold meansR; rw [hB]; rfl] at K1 K2
    obtain ⟨s1, s6⟩ := stack_len hB
    obtain ⟨m1, m20⟩ := stack_wid hB
    have hln := Lib.hid a1.len
    rw [a1.len] at s1 s6
    have HB := Lib.hid hB
    obtain ⟨M, hM⟩ : ∃ M, M = wid R := ⟨_, rfl⟩
    have HM := Lib.hid hM
    rw [← hM] at m1 m20 K1 K2
    have hVl : (means R M).length = M := means_length R M
    clear hB hM
    go_wp2_with fail
    refine (K1.out _ a1).mono ?_
    rintro e w2 ⟨A2, m2, c2, rfl, o2, b2⟩
    have B2 := b1.trans (b2.mono b1.size)
    have a2 := (a1.below' b2).more b2.size
    have x2 := o2.arr PP_length
    have hm2 := o2.1
    rw [hVl] at hm2
    obtain rfl : m2 = M := hm2.symm
    clear a1 b1 b2 o2
    go_wp2_with fail
    refine (K2.out _ a2).mono ?_
    rintro e w3 ⟨A3, m3, c3, rfl, o3, b3⟩
    have B3 := B2.trans (b3.mono B2.size)
    have a3 := (a2.below' b3).more b3.size
    have x3 := (x2.below' b3).more b3.size
    have HS := Lib.hid (sameFracs_later (c := c2) (c' := c3) x3 (o3.arr PP_length))
    clear a2 b3 B2 x2 o3 K2
    go_wp2_with fail
    refine (HS.out _ (Below.refl _ _)).mono ?_
    rintro e w5 ⟨rfl, b5⟩
    have B5 := B3.trans (b5.mono B3.size)
    have a5 := (a3.below' b5).more b5.size
    have x5 := (x3.below' b5).more b5.size
    clear HS B3 b5 a3 x3
    have hmem := Lib.hid (fun r hr => stack_mem HB.out (r := r) hr)
    have hsb := Lib.hid (stack_sum_bd HB.out)
    go_wp2_with fail
    go_loopw [8] (fun k wr => ∃ j : Nat, j ≤ m2 ∧ k = .int .i64 j ∧ Below w5.heap.size w5 wr) (fun k _ => m2 - (intOf k).toNat)
    case atStart => exact ⟨0, Nat.zero_le _, rfl, Below.refl _ _⟩
    case round =>
      obtain ⟨k, hk, rfl, hbo⟩ := hrel
      by_cases hkm : k < m2
      · obtain ⟨b3, off3, S, D, rfl, hbB3, hx3, c3', c4'⟩ := x5.pair hkm
        rw [means_get R hkm, hln.out] at hx3
        injection hx3 with hx3
        have sb := hsb.out k
        have HLA := Lib.hid (low_any hln.out (by omega) k)
        have HHA := Lib.hid (high_any hln.out (by omega) k)
        obtain ⟨C, hC⟩ : ∃ C, C = col R k := ⟨_, rfl⟩
        have HC := Lib.hid hC
        have HCL := Lib.hid (show C.length = n1 by rw [hC, col_length, hln.out])
        rw [← hC] at HLA HHA
        obtain ⟨SS, hSS⟩ : ∃ SS, SS = sumAt R k := ⟨_, rfl⟩
        rw [← hSS] at sb HLA HHA hx3
        have hbd := fr_bd (a := SS) (b := n1) (L := 60000) (by omega) sb.1 sb.2
        rw [hx3] at hbd
        obtain ⟨S1, S2, D1', D2'⟩ := hbd
        simp only at S1 S2 D1' D2'
        have hlow := fr_low (a := SS) (b := (n1 : Int)) (by omega)
        rw [hx3] at hlow
        have HLOW := Lib.hid hlow
        have HLS := Lib.hid (fun x => fr_less (a := SS) (b := (n1 : Int)) (x := x) (by omega))
        have HMO := Lib.hid (fun x => fr_more (a := SS) (b := (n1 : Int)) (x := x) (by omega))
        rw [hx3] at HLS HMO
        simp only at HLS HMO
        have ik : (k : Int) < (m2 : Int) := by omega
        have ik0 : (0 : Int) ≤ (k : Int) := by omega
        obtain ⟨wo, rfl⟩ : ∃ wo : World, wo = wr := ⟨_, rfl⟩
        clear hC hSS hx3 hlow sb
        go_wp2_with fail
        go_loopw [9, 10, 11] (fun lo hi i wr => ∃ i' : Nat, i' ≤ n1 ∧ i = .int .i64 i' ∧ lo = .bool ((C.take i').any (lowF SS n1)) ∧ hi = .bool ((C.take i').any (highF SS n1)) ∧ Below w5.heap.size w5 wr) (fun _ _ i _ => n1 - (intOf i).toNat)
        case atStart => exact ⟨0, Nat.zero_le _, rfl, rfl, rfl, hbo⟩
        case round =>
          clear hbo
          obtain ⟨i, hi, rfl, rfl, rfl, hb⟩ := hrel
          by_cases hin : i < n1
          · obtain ⟨b, off, r, A', c', rfl, hbB, hx, c1', hc1', ha⟩ := a5.row hin
            obtain ⟨hra, hrw, hr1, hr20⟩ := hmem.out r (List.mem_of_getElem? hx)
            have hkr : k < r.length := by rw [hrw, ← HM.out]; exact hkm
            obtain ⟨b', off', x, rfl, hbB', hy, c2'⟩ := ha.int hkr
            have hxb := (numB_iff x).1 (List.all_eq_true.1 hra x (List.mem_of_getElem? hy))
            obtain ⟨xb1, xb2⟩ := hxb
            have hCi : C[i]? = some x := by rw [HC.out, col_get hx, at0_of hy]
            have hTL := any_take (f := lowF SS n1) hCi
            have hTH := any_take (f := highF SS n1) hCi
            have xD1 : -60000 ≤ x * D ∧ x * D ≤ 60000 := by
              have a1 := Int.mul_le_mul_of_nonneg_right xb2 (show 0 ≤ D by omega)
              have a2 := Int.mul_le_mul_of_nonneg_right xb1 (show 0 ≤ D by omega)
              omega
            have e1 : lowF SS n1 x = !decide (S * 1 < x * D) := by unfold lowF; rw [decide_eq_decide.2 (HLS.out x).symm]
            have e2 : highF SS n1 x = !decide (x * D < S * 1) := by unfold highF; rw [decide_eq_decide.2 (HMO.out x).symm]
            have F1 := fun W => implFracLess_any S D x 1 W (by omega) (by omega) HLOW.out (by omega) (by omega) (by simp) _ rfl (by omega) (by omega)
            have F2 := fun W => implFracLess_any x 1 S D W (by omega) (by omega) (by simp) (by omega) (by omega) HLOW.out _ rfl (by omega) (by omega)
            obtain ⟨q1, hq1⟩ : ∃ q, q = decide (S * 1 < x * D) := ⟨_, rfl⟩
            obtain ⟨q2, hq2⟩ : ∃ q, q = decide (x * D < S * 1) := ⟨_, rfl⟩
            rw [← hq1] at e1 F1
            rw [← hq2] at e2 F2
            rw [e1] at hTL
            rw [e2] at hTH
            have FL1 := Lib.hid F1
            have FL2 := Lib.hid F2
            have i1 : (i : Int) < (n1 : Int) := by omega
            have i2 : (0 : Int) ≤ (i : Int) := by omega
            have i3 : (k : Int) < (r.length : Int) := by omega
            clear hx hy hCi hra hrw ha e1 e2 F1 F2 hq1 hq2 xD1 hr1 hr20
            cases hL : (C.take i).any (lowF SS n1) with
            | true =>
              rw [hL, Bool.true_or] at hTL
              have hTL := Lib.hid hTL
              cases hH : (C.take i).any (highF SS n1) with
              | true =>
                rw [hH, Bool.true_or] at hTH
                have hTH := Lib.hid hTH
                clear hL hH
                have D1 := Later.cell (w0 := wr) (B := w5.heap.size) (by exact hbB) ((hb.cell (by exact hbB)).trans c1')
                have D2 := Later.cell (w0 := wr) (B := w5.heap.size) (by exact hbB') ((hb.cell (by exact hbB')).trans c2')
                have D3 := Later.cell (w0 := wr) (B := w5.heap.size) (by exact hbB3) ((hb.cell (by exact hbB3)).trans c3')
                have D4 := Later.cell (w0 := wr) (B := w5.heap.size) (by exact hbB3) ((hb.cell (by exact hbB3)).trans c4')
                have hsz16 := hb.size
                have C1' := Lib.hid c1'; have C2' := Lib.hid c2'; have C3' := Lib.hid c3'; have C4' := Lib.hid c4'; clear c1' c2' c3' c4'
                go_wp2_with fail
                refine wp_region_under (B := w5.heap.size) (w0 := wr) (by kernel_rfl) (by kernel_rfl) (Below.refl _ _) ?_
                repeat (go_big_quiet_step ((first | (go_at_call 36; exact Calls.under hsz16 (frac_any _ _)) | (go_at_call 35; exact Calls.under hsz16 (FL1.out _)))))
                refine wpQuiet_nil ?_
                rintro w7 ⟨u, hu⟩
                have B7 := hb.trans (show Below w5.heap.size wr w7 by rw [hu]; exact u.2)
                clear hu u D1 D2 D3 D4
                have c1' := C1'.out; have c2' := C2'.out; have c3' := C3'.out; have c4' := C4'.out; clear C1' C2' C3' C4'
                have D1 := Later.cell (w0 := w7) (B := w5.heap.size) (by exact hbB) ((B7.cell (by exact hbB)).trans c1')
                have D2 := Later.cell (w0 := w7) (B := w5.heap.size) (by exact hbB') ((B7.cell (by exact hbB')).trans c2')
                have D3 := Later.cell (w0 := w7) (B := w5.heap.size) (by exact hbB3) ((B7.cell (by exact hbB3)).trans c3')
                have D4 := Later.cell (w0 := w7) (B := w5.heap.size) (by exact hbB3) ((B7.cell (by exact hbB3)).trans c4')
                have hsz17 := B7.size
                clear c1' c2' c3' c4'
                go_wp2_with fail
                refine wp_region_under (B := w5.heap.size) (w0 := w7) (by kernel_rfl) (by kernel_rfl) (Below.refl _ _) ?_
                repeat (go_big_quiet_step ((first | (go_at_call 36; exact Calls.under hsz17 (frac_any _ _)) | (go_at_call 35; exact Calls.under hsz17 (FL2.out _)))))
                refine wpQuiet_nil ?_
                rintro w8 ⟨u, hu⟩
                have B8 := B7.trans (show Below w5.heap.size w7 w8 by rw [hu]; exact u.2)
                clear hu u D1 D2 D3 D4
                go_wp2
                go_roundw
                case rel => exact ⟨i + 1, by omega, by go_num, by rw [hTL.out], by rw [hTH.out], B8⟩
                case measure => simp [intOf]; omega
              | false =>
                rw [hH, Bool.false_or] at hTH
                have hTH := Lib.hid hTH
                clear hL hH
                have D1 := Later.cell (w0 := wr) (B := w5.heap.size) (by exact hbB) ((hb.cell (by exact hbB)).trans c1')
                have D2 := Later.cell (w0 := wr) (B := w5.heap.size) (by exact hbB') ((hb.cell (by exact hbB')).trans c2')
                have D3 := Later.cell (w0 := wr) (B := w5.heap.size) (by exact hbB3) ((hb.cell (by exact hbB3)).trans c3')
                have D4 := Later.cell (w0 := wr) (B := w5.heap.size) (by exact hbB3) ((hb.cell (by exact hbB3)).trans c4')
                have hsz16 := hb.size
                have C1' := Lib.hid c1'; have C2' := Lib.hid c2'; have C3' := Lib.hid c3'; have C4' := Lib.hid c4'; clear c1' c2' c3' c4'
                go_wp2_with fail
                refine wp_region_under (B := w5.heap.size) (w0 := wr) (by kernel_rfl) (by kernel_rfl) (Below.refl _ _) ?_
                repeat (go_big_quiet_step ((first | (go_at_call 36; exact Calls.under hsz16 (frac_any _ _)) | (go_at_call 35; exact Calls.under hsz16 (FL1.out _)))))
                refine wpQuiet_nil ?_
                rintro w7 ⟨u, hu⟩
                have B7 := hb.trans (show Below w5.heap.size wr w7 by rw [hu]; exact u.2)
                clear hu u D1 D2 D3 D4
                have c1' := C1'.out; have c2' := C2'.out; have c3' := C3'.out; have c4' := C4'.out; clear C1' C2' C3' C4'
                have D1 := Later.cell (w0 := w7) (B := w5.heap.size) (by exact hbB) ((B7.cell (by exact hbB)).trans c1')
                have D2 := Later.cell (w0 := w7) (B := w5.heap.size) (by exact hbB') ((B7.cell (by exact hbB')).trans c2')
                have D3 := Later.cell (w0 := w7) (B := w5.heap.size) (by exact hbB3) ((B7.cell (by exact hbB3)).trans c3')
                have D4 := Later.cell (w0 := w7) (B := w5.heap.size) (by exact hbB3) ((B7.cell (by exact hbB3)).trans c4')
                have hsz17 := B7.size
                clear c1' c2' c3' c4'
                go_wp2_with fail
                refine wp_region_under (B := w5.heap.size) (w0 := w7) (by kernel_rfl) (by kernel_rfl) (Below.refl _ _) ?_
                repeat (go_big_quiet_step ((first | (go_at_call 36; exact Calls.under hsz17 (frac_any _ _)) | (go_at_call 35; exact Calls.under hsz17 (FL2.out _)))))
                refine wpQuiet_nil ?_
                rintro w8 ⟨u, hu⟩
                have B8 := B7.trans (show Below w5.heap.size w7 w8 by rw [hu]; exact u.2)
                clear hu u D1 D2 D3 D4
                go_wp2
                go_roundw
                case rel => exact ⟨i + 1, by omega, by go_num, by rw [hTL.out], by rw [hTH.out], B8⟩
                case measure => simp [intOf]; omega
            | false =>
              rw [hL, Bool.false_or] at hTL
              have hTL := Lib.hid hTL
              cases hH : (C.take i).any (highF SS n1) with
              | true =>
                rw [hH, Bool.true_or] at hTH
                have hTH := Lib.hid hTH
                clear hL hH
                have D1 := Later.cell (w0 := wr) (B := w5.heap.size) (by exact hbB) ((hb.cell (by exact hbB)).trans c1')
                have D2 := Later.cell (w0 := wr) (B := w5.heap.size) (by exact hbB') ((hb.cell (by exact hbB')).trans c2')
                have D3 := Later.cell (w0 := wr) (B := w5.heap.size) (by exact hbB3) ((hb.cell (by exact hbB3)).trans c3')
                have D4 := Later.cell (w0 := wr) (B := w5.heap.size) (by exact hbB3) ((hb.cell (by exact hbB3)).trans c4')
                have hsz16 := hb.size
                have C1' := Lib.hid c1'; have C2' := Lib.hid c2'; have C3' := Lib.hid c3'; have C4' := Lib.hid c4'; clear c1' c2' c3' c4'
                go_wp2_with fail
                refine wp_region_under (B := w5.heap.size) (w0 := wr) (by kernel_rfl) (by kernel_rfl) (Below.refl _ _) ?_
                repeat (go_big_quiet_step ((first | (go_at_call 36; exact Calls.under hsz16 (frac_any _ _)) | (go_at_call 35; exact Calls.under hsz16 (FL1.out _)))))
                refine wpQuiet_nil ?_
                rintro w7 ⟨u, hu⟩
                have B7 := hb.trans (show Below w5.heap.size wr w7 by rw [hu]; exact u.2)
                clear hu u D1 D2 D3 D4
                have c1' := C1'.out; have c2' := C2'.out; have c3' := C3'.out; have c4' := C4'.out; clear C1' C2' C3' C4'
                have D1 := Later.cell (w0 := w7) (B := w5.heap.size) (by exact hbB) ((B7.cell (by exact hbB)).trans c1')
                have D2 := Later.cell (w0 := w7) (B := w5.heap.size) (by exact hbB') ((B7.cell (by exact hbB')).trans c2')
                have D3 := Later.cell (w0 := w7) (B := w5.heap.size) (by exact hbB3) ((B7.cell (by exact hbB3)).trans c3')
                have D4 := Later.cell (w0 := w7) (B := w5.heap.size) (by exact hbB3) ((B7.cell (by exact hbB3)).trans c4')
                have hsz17 := B7.size
                clear c1' c2' c3' c4'
                go_wp2_with fail
                refine wp_region_under (B := w5.heap.size) (w0 := w7) (by kernel_rfl) (by kernel_rfl) (Below.refl _ _) ?_
                repeat (go_big_quiet_step ((first | (go_at_call 36; exact Calls.under hsz17 (frac_any _ _)) | (go_at_call 35; exact Calls.under hsz17 (FL2.out _)))))
                refine wpQuiet_nil ?_
                rintro w8 ⟨u, hu⟩
                have B8 := B7.trans (show Below w5.heap.size w7 w8 by rw [hu]; exact u.2)
                clear hu u D1 D2 D3 D4
                go_wp2
                go_roundw
                case rel => exact ⟨i + 1, by omega, by go_num, by rw [hTL.out], by rw [hTH.out], B8⟩
                case measure => simp [intOf]; omega
              | false =>
                rw [hH, Bool.false_or] at hTH
                have hTH := Lib.hid hTH
                clear hL hH
                have D1 := Later.cell (w0 := wr) (B := w5.heap.size) (by exact hbB) ((hb.cell (by exact hbB)).trans c1')
                have D2 := Later.cell (w0 := wr) (B := w5.heap.size) (by exact hbB') ((hb.cell (by exact hbB')).trans c2')
                have D3 := Later.cell (w0 := wr) (B := w5.heap.size) (by exact hbB3) ((hb.cell (by exact hbB3)).trans c3')
                have D4 := Later.cell (w0 := wr) (B := w5.heap.size) (by exact hbB3) ((hb.cell (by exact hbB3)).trans c4')
                have hsz16 := hb.size
                have C1' := Lib.hid c1'; have C2' := Lib.hid c2'; have C3' := Lib.hid c3'; have C4' := Lib.hid c4'; clear c1' c2' c3' c4'
                go_wp2_with fail
                refine wp_region_under (B := w5.heap.size) (w0 := wr) (by kernel_rfl) (by kernel_rfl) (Below.refl _ _) ?_
                repeat (go_big_quiet_step ((first | (go_at_call 36; exact Calls.under hsz16 (frac_any _ _)) | (go_at_call 35; exact Calls.under hsz16 (FL1.out _)))))
                refine wpQuiet_nil ?_
                rintro w7 ⟨u, hu⟩
                have B7 := hb.trans (show Below w5.heap.size wr w7 by rw [hu]; exact u.2)
                clear hu u D1 D2 D3 D4
                have c1' := C1'.out; have c2' := C2'.out; have c3' := C3'.out; have c4' := C4'.out; clear C1' C2' C3' C4'
                have D1 := Later.cell (w0 := w7) (B := w5.heap.size) (by exact hbB) ((B7.cell (by exact hbB)).trans c1')
                have D2 := Later.cell (w0 := w7) (B := w5.heap.size) (by exact hbB') ((B7.cell (by exact hbB')).trans c2')
                have D3 := Later.cell (w0 := w7) (B := w5.heap.size) (by exact hbB3) ((B7.cell (by exact hbB3)).trans c3')
                have D4 := Later.cell (w0 := w7) (B := w5.heap.size) (by exact hbB3) ((B7.cell (by exact hbB3)).trans c4')
                have hsz17 := B7.size
                clear c1' c2' c3' c4'
                go_wp2_with fail
                refine wp_region_under (B := w5.heap.size) (w0 := w7) (by kernel_rfl) (by kernel_rfl) (Below.refl _ _) ?_
                repeat (go_big_quiet_step ((first | (go_at_call 36; exact Calls.under hsz17 (frac_any _ _)) | (go_at_call 35; exact Calls.under hsz17 (FL2.out _)))))
                refine wpQuiet_nil ?_
                rintro w8 ⟨u, hu⟩
                have B8 := B7.trans (show Below w5.heap.size w7 w8 by rw [hu]; exact u.2)
                clear hu u D1 D2 D3 D4
                go_wp2
                go_roundw
                case rel => exact ⟨i + 1, by omega, by go_num, by rw [hTL.out], by rw [hTH.out], B8⟩
                case measure => simp [intOf]; omega
          · obtain rfl : i = n1 := by omega
            have hCt : C.take i = C := List.take_of_length_le (by rw [HCL.out]; exact Nat.le_refl _)
            rw [hCt, HLA.out, HHA.out]
            clear hCt
            go_wp2
            go_roundw
            case rel => exact ⟨k + 1, by omega, by go_num, hb⟩
            case measure => simp [intOf]; omega
      · obtain rfl : k = m2 := by omega
        go_wp2
        go_ret
        exact ⟨ret_bool (decide_eq_true (by omega)), B5.trans (hbo.mono B5.size)⟩
end Go.Proofs.Ytfohfcpnhhiemaa
