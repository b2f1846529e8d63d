/-
  The walk of the law FnMiddle.
-/
import Derived.Test.YtfohfcpnhhiemaaMiddle
import Derived.Test.YtfohfcpnhhiemaaSpecMiddle
import Derived.Test.YtfohfcpnhhiemaaInts
import Derived.Test.YtfohfcpnhhiemaaDrawStacks
namespace Go.Proofs.Ytfohfcpnhhiemaa
open Go.RowKit
set_option linter.unusedSimpArgs false
set_option linter.unusedVariables false

set_option maxRecDepth 100000 in
set_option maxHeartbeats 4000000 in
theorem walk_FnMiddle (w : World) (A : Option Addr) (n c : Nat) (l : List Int) (h : Arr BB 1 w w.heap.size A n l) (hby : ∀ x ∈ l, 0 ≤ x ∧ x ≤ 255) (hc : n ≤ c) :
    Calls Try.prog 10 #[.slice A n c] w fun e w' => e = .returned (.bool true) ∧ Below w.heap.size w w' := by
  have C := Lib.hid (DrawStackMiddle_any A n c l w h hby hc)
  clear hby h
  by_cases hb : 1048576 < n
  · go_enter Try.func10, Try.ntmps10
    go_wp2_with fail
    go_ret
    exact ⟨rfl, Below.refl _ _⟩
  go_enter Try.func10, Try.ntmps10
  go_wp2_with fail
  refine C.out.mono ?_
  rintro e w1 ⟨A1, n1, c1, vs, R, rfl, ho, hc1, hn1, hR, b1⟩
  have a1 := ho.rows
  have hR' := Lib.hid (fun (r : List Int) (hr : r ∈ R) => show r.length ≤ 1099511627776 by have := hR r hr; omega)
  have HR10 := Lib.hid hR
  clear C ho hR
  have K1 := Lib.hid (fun W h1 => implMiddle_any A1 n1 c1 R W h1 (by omega) hR'.out)
  have K2 := Lib.hid (fun W h1 => specMiddle_any A1 n1 c1 R W h1 (by omega) hR'.out)
  cases hB : stackB R with
  | false =>
    rw [hB, show midsR R = [] by unfold midsR; rw [hB]; rfl] at K1 K2
    clear hB
    go_wp2_with fail
    refine (K1.out _ a1).mono ?_
    rintro e w2 ⟨A2, m2, c2, rfl, o2, b2⟩
    have B2 := b1.trans (b2.mono b1.size)
    have a2 := (a1.below' b2).more b2.size
    have x2 := o2.arr II_length
    clear a1 b1 b2 o2
    go_wp2_with fail
    refine (K2.out _ a2).mono ?_
    rintro e w3 ⟨A3, m3, c3, rfl, o3, b3⟩
    have B3 := B2.trans (b3.mono B2.size)
    have HS := Lib.hid (sameInts_later (c := c2) (c' := c3) ((x2.below' b3).more b3.size) (o3.arr II_length))
    clear a2 b3 B2 x2 o3 K1 K2
    go_wp2_with fail
    refine (HS.out _ (Below.refl _ _)).mono ?_
    rintro e w4 ⟨rfl, b4⟩
    go_wp2_with fail
    refine (HS.out _ b4).mono ?_
    rintro e w5 ⟨rfl, b5⟩
    clear b4
    go_wp2
    go_ret
    exact ⟨rfl, B3.trans (b5.mono B3.size)⟩
  | true =>
    rw [hB, show midsR R = mids R (wid R) by unfold midsR; rw [hB]; rfl] at K1 K2
    obtain ⟨s1, s6⟩ := stack_len hB
    obtain ⟨m1, m20⟩ := stack_wid hB
    have hln := Lib.hid a1.len
    rw [a1.len] at s1 s6
    have HB := Lib.hid hB
    obtain ⟨M, hM⟩ : ∃ M, M = wid R := ⟨_, rfl⟩
    have HM := Lib.hid hM
    rw [← hM] at m1 m20 K1 K2
    have hVl : (mids R M).length = M := mids_length R M
    clear hB hM
    go_wp2_with fail
    refine (K1.out _ a1).mono ?_
    rintro e w2 ⟨A2, m2, c2, rfl, o2, b2⟩
    have B2 := b1.trans (b2.mono b1.size)
    have a2 := (a1.below' b2).more b2.size
    have x2 := o2.arr II_length
    have hm2 := o2.1
    rw [hVl] at hm2
    obtain rfl : m2 = M := hm2.symm
    clear a1 b1 b2 o2
    go_wp2_with fail
    refine (K2.out _ a2).mono ?_
    rintro e w3 ⟨A3, m3, c3, rfl, o3, b3⟩
    have B3 := B2.trans (b3.mono B2.size)
    have a3 := (a2.below' b3).more b3.size
    have x3 := (x2.below' b3).more b3.size
    have HS := Lib.hid (sameInts_later (c := c2) (c' := c3) x3 (o3.arr II_length))
    clear a2 b3 B2 x2 o3 K2
    go_wp2_with fail
    refine (HS.out _ (Below.refl _ _)).mono ?_
    rintro e w5 ⟨rfl, b5⟩
    have B5 := B3.trans (b5.mono B3.size)
    have a5 := (a3.below' b5).more b5.size
    have x5 := (x3.below' b5).more b5.size
    clear HS B3 b5 a3 x3
    have hmem := Lib.hid (fun r hr => stack_mem HB.out (r := r) hr)
    go_wp2_with fail
    go_loopw [8] (fun k wr => ∃ j : Nat, j ≤ m2 ∧ k = .int .i64 j ∧ Below w5.heap.size w5 wr) (fun k _ => m2 - (intOf k).toNat)
    case atStart => exact ⟨0, Nat.zero_le _, rfl, Below.refl _ _⟩
    case round =>
      obtain ⟨k, hk, rfl, hbo⟩ := hrel
      by_cases hkm : k < m2
      · obtain ⟨b3, off3, x, rfl, hbB3, hx3, c3'⟩ := x5.int hkm
        have hxm : x = mid (col R k) := by have := mids_get R hkm; rw [hx3] at this; injection this
        obtain ⟨C, hC⟩ : ∃ C, C = col R k := ⟨_, rfl⟩
        have hCl : C.length = n1 := by rw [hC, col_length, hln.out]
        have hcnt := mid_count (c := C) (by omega)
        rw [hC, ← hxm, ← hC, hCl] at hcnt
        have hspl := count_split x C
        have HC := Lib.hid hC
        have HCL := Lib.hid hCl
        have HCN := Lib.hid hcnt
        have HSP := Lib.hid hspl
        obtain ⟨wo, rfl⟩ : ∃ wo : World, wo = wr := ⟨_, rfl⟩
        clear hxm hC hCl hcnt hspl hx3
        go_wp2_with fail
        go_loopw [9, 10, 11, 12] (fun le gr sa i wr => ∃ i' : Nat, i' ≤ n1 ∧ i = .int .i64 i' ∧ le = .int .i64 (lessN x (C.take i')) ∧ gr = .int .i64 (greatN x (C.take i')) ∧ sa = .int .i64 (sameN x (C.take i')) ∧ lessN x (C.take i') ≤ i' ∧ greatN x (C.take i') ≤ i' ∧ sameN x (C.take i') ≤ i' ∧ Below w5.heap.size w5 wr) (fun _ _ _ i _ => n1 - (intOf i).toNat)
        case atStart => exact ⟨0, Nat.zero_le _, rfl, rfl, rfl, rfl, Nat.le_refl _, Nat.le_refl _, Nat.le_refl _, hbo⟩
        case round =>
          clear hbo
          obtain ⟨i, hi, rfl, rfl, rfl, rfl, l1, l2, l3, hb⟩ := hrel
          by_cases hin : i < n1
          · obtain ⟨b, off, r, A', c', rfl, hbB, hx, c1', hc1', ha⟩ := a5.row hin
            obtain ⟨hra, hrw, hr1, hr20⟩ := hmem.out r (List.mem_of_getElem? hx)
            have hkr : k < r.length := by rw [hrw, ← HM.out]; exact hkm
            obtain ⟨b', off', y, rfl, hbB', hy, c2'⟩ := ha.int hkr
            have hCi : C[i]? = some y := by rw [HC.out, col_get hx, at0_of hy]
            have e1 := Lib.hid (lessN_take x hCi)
            have e2 := Lib.hid (greatN_take x hCi)
            have e3 := Lib.hid (sameN_take x hCi)
            have g1 := (hb.cell (by exact hbB)).trans c1'
            have g2 := (hb.cell (by exact hbB')).trans c2'
            have g3 := (hb.cell (by exact hbB3)).trans c3'
            have i1 : (i : Int) < (n1 : Int) := by omega
            have i2 : (k : Int) < (m2 : Int) := by omega
            have i3 : (k : Int) < (r.length : Int) := by omega
            obtain ⟨LE, hLE⟩ : ∃ z, z = lessN x (C.take i) := ⟨_, rfl⟩
            obtain ⟨GR, hGR⟩ : ∃ z, z = greatN x (C.take i) := ⟨_, rfl⟩
            obtain ⟨SA, hSA⟩ : ∃ z, z = sameN x (C.take i) := ⟨_, rfl⟩
            rw [← hLE] at e1 l1 ⊢
            rw [← hGR] at e2 l2 ⊢
            rw [← hSA] at e3 l3 ⊢
            clear hx hy hCi hra hrw c1' c2' hLE hGR hSA ha
            rcases (show y < x ∨ x < y ∨ y = x by omega) with hc | hc | hc
            · have f1 : decide (y < x) = true := decide_eq_true hc
              have f2 : decide (x < y) = false := decide_eq_false (by omega)
              have E1 := Lib.hid (show lessN x (C.take (i + 1)) = LE + 1 by rw [e1.out, if_pos hc])
              have E2 := Lib.hid (show greatN x (C.take (i + 1)) = GR by rw [e2.out, if_neg (by omega)]; rfl)
              have E3 := Lib.hid (show sameN x (C.take (i + 1)) = SA by rw [e3.out, if_neg (by omega)]; rfl)
              clear hc e1 e2 e3
              go_wp2_with fail
              go_quiet (fail)
              have h1 : (wr.drewN nq).cell? ⟨b, off + i, none⟩ = some (.slice (some ⟨b', off', none⟩) r.length c') := g1
              have h2 : (wr.drewN nq).cell? ⟨b', off' + k, none⟩ = some (.int .i64 y) := g2
              have h3 : (wr.drewN nq).cell? ⟨b3, off3 + k, none⟩ = some (.int .i64 x) := g3
              have B7 := below_drewN hb nq
              clear g1 g2 g3 hb
              generalize wr.drewN nq = w7 at h1 h2 h3 B7 ⊢
              go_wp2_with fail
              clear h1 h2 h3 f1 f2
              go_wp2
              go_roundw
              case rel => exact ⟨i + 1, by omega, by go_num, by rw [E1.out]; go_num, by rw [E2.out], by rw [E3.out], by rw [E1.out]; omega, by rw [E2.out]; omega, by rw [E3.out]; omega, B7⟩
              case measure => simp [intOf]; omega
            · have f1 : decide (y < x) = false := decide_eq_false (by omega)
              have f2 : decide (x < y) = true := decide_eq_true hc
              have E1 := Lib.hid (show lessN x (C.take (i + 1)) = LE by rw [e1.out, if_neg (by omega)]; rfl)
              have E2 := Lib.hid (show greatN x (C.take (i + 1)) = GR + 1 by rw [e2.out, if_pos hc])
              have E3 := Lib.hid (show sameN x (C.take (i + 1)) = SA by rw [e3.out, if_neg (by omega)]; rfl)
              clear hc e1 e2 e3
              go_wp2_with fail
              go_quiet (fail)
              have h1 : (wr.drewN nq).cell? ⟨b, off + i, none⟩ = some (.slice (some ⟨b', off', none⟩) r.length c') := g1
              have h2 : (wr.drewN nq).cell? ⟨b', off' + k, none⟩ = some (.int .i64 y) := g2
              have h3 : (wr.drewN nq).cell? ⟨b3, off3 + k, none⟩ = some (.int .i64 x) := g3
              have B7 := below_drewN hb nq
              clear g1 g2 g3 hb
              generalize wr.drewN nq = w7 at h1 h2 h3 B7 ⊢
              go_wp2_with fail
              go_quiet (fail)
              have B8 := below_drewN B7 nq
              clear h1 h2 h3 f1 f2
              go_wp2
              go_roundw
              case rel => exact ⟨i + 1, by omega, by go_num, by rw [E1.out], by rw [E2.out]; go_num, by rw [E3.out], by rw [E1.out]; omega, by rw [E2.out]; omega, by rw [E3.out]; omega, B8⟩
              case measure => simp [intOf]; omega
            · have f1 : decide (y < x) = false := decide_eq_false (by omega)
              have f2 : decide (x < y) = false := decide_eq_false (by omega)
              have E1 := Lib.hid (show lessN x (C.take (i + 1)) = LE by rw [e1.out, if_neg (by omega)]; rfl)
              have E2 := Lib.hid (show greatN x (C.take (i + 1)) = GR by rw [e2.out, if_neg (by omega)]; rfl)
              have E3 := Lib.hid (show sameN x (C.take (i + 1)) = SA + 1 by rw [e3.out, if_pos hc])
              clear hc e1 e2 e3
              go_wp2_with fail
              go_quiet (fail)
              have h1 : (wr.drewN nq).cell? ⟨b, off + i, none⟩ = some (.slice (some ⟨b', off', none⟩) r.length c') := g1
              have h2 : (wr.drewN nq).cell? ⟨b', off' + k, none⟩ = some (.int .i64 y) := g2
              have h3 : (wr.drewN nq).cell? ⟨b3, off3 + k, none⟩ = some (.int .i64 x) := g3
              have B7 := below_drewN hb nq
              clear g1 g2 g3 hb
              generalize wr.drewN nq = w7 at h1 h2 h3 B7 ⊢
              go_wp2_with fail
              go_quiet (fail)
              have B8 := below_drewN B7 nq
              clear h1 h2 h3 f1 f2
              go_wp2
              go_roundw
              case rel => exact ⟨i + 1, by omega, by go_num, by rw [E1.out], by rw [E2.out], by rw [E3.out]; go_num, by rw [E1.out]; omega, by rw [E2.out]; omega, by rw [E3.out]; omega, B8⟩
              case measure => simp [intOf]; omega
          · obtain rfl : i = n1 := by omega
            have hCt : C.take i = C := List.take_of_length_le (by rw [HCL.out]; exact Nat.le_refl _)
            rw [hCt] at l1 l2 l3 ⊢
            have cc := HCN.out
            have cs := HSP.out
            rw [HCL.out] at cs
            obtain ⟨LE, hLE⟩ : ∃ z, z = lessN x C := ⟨_, rfl⟩
            obtain ⟨GR, hGR⟩ : ∃ z, z = greatN x C := ⟨_, rfl⟩
            obtain ⟨SA, hSA⟩ : ∃ z, z = sameN x C := ⟨_, rfl⟩
            rw [← hLE, ← hSA] at cc
            rw [← hLE, ← hSA, ← hGR] at cs
            rw [← hLE] at l1 ⊢
            rw [← hGR] at l2 ⊢
            rw [← hSA] at l3 ⊢
            have t1 : 0 < SA := by omega
            have t2 : 2 * LE ≤ i - 1 := by omega
            have t3 : 2 * GR ≤ i := by omega
            have f1 : ((SA : Int) == 0) = false := by simp; omega
            have f2 : 2 * (LE : Int) ≤ (i : Int) - 1 := by omega
            have f3 : 2 * (GR : Int) ≤ (i : Int) := by omega
            clear hCt cc cs hLE hGR hSA HCN HSP t1 t2 t3
            go_wp2
            go_roundw
            case rel => exact ⟨k + 1, by omega, by go_num, hb⟩
            case measure => simp [intOf]; omega
      · obtain rfl : k = m2 := by omega
        obtain ⟨b0, off0, r0, A0, c0, rfl, hb0, hx0, d0, hd0, ha0⟩ := a5.row (k := 0) (by omega)
        have hw0 := wid_of hx0
        rw [← HM.out] at hw0
        rw [Nat.add_zero, ← hw0] at d0
        have d0' := (hbo.cell (by exact hb0)).trans d0
        clear hx0 hw0 d0 ha0 hd0
        go_wp2
        go_ret
        exact ⟨rfl, B5.trans (hbo.mono B5.size)⟩
end Go.Proofs.Ytfohfcpnhhiemaa
