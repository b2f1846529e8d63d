/-
  Contracts: the reference's l41Middle and StackMiddle.
-/
import Derived.Test.YtfohfcpnhhiemaaStackSum
import Derived.Test.YtfohfcpnhhiemaaPlainM
namespace Go.Proofs.Ytfohfcpnhhiemaa
open Go.RowKit
set_option linter.unusedSimpArgs false
set_option linter.unusedVariables false

theorem lessN_take {c : List Int} {j : Nat} {y : Int} (x : Int) (h : c[j]? = some y) : lessN x (c.take (j + 1)) = lessN x (c.take j) + if y < x then 1 else 0 := by
  unfold lessN
  rw [take_snoc h, List.countP_append]
  congr 1
  by_cases hy : y < x <;> simp [hy]
theorem sameN_take {c : List Int} {j : Nat} {y : Int} (x : Int) (h : c[j]? = some y) : sameN x (c.take (j + 1)) = sameN x (c.take j) + if y = x then 1 else 0 := by
  unfold sameN
  rw [take_snoc h, List.countP_append]
  congr 1
  by_cases hy : y = x <;> simp [hy]
theorem greatN_take {c : List Int} {j : Nat} {y : Int} (x : Int) (h : c[j]? = some y) : greatN x (c.take (j + 1)) = greatN x (c.take j) + if x < y then 1 else 0 := by
  unfold greatN
  rw [take_snoc h, List.countP_append]
  congr 1
  by_cases hy : x < y <;> simp [hy]

set_option maxRecDepth 100000 in
set_option maxHeartbeats 2000000 in
theorem l41Middle_any (A : Option Addr) (n c k : Nat) (R : List (List Int)) (w : World) (h : Rows2 w w.heap.size A n R) (hB : stackB R = true) (hk : k < wid R) :
    Calls Try.prog 65 #[.slice A n c, .int .i64 k] w fun e w' => e = .returned (.int .i64 (mid (col R k))) ∧ Below w.heap.size w w' := by
  obtain ⟨s1, s6⟩ := stack_len hB
  have hmem := Lib.hid (fun r hr => stack_mem hB (r := r) hr)
  have hln := Lib.hid h.len
  rw [h.len] at s1 s6
  have hwd := stack_wid hB
  have hk20 : k ≤ 20 := by omega
  have HK := Lib.hid hk
  obtain ⟨C, hC⟩ : ∃ C, C = col R k := ⟨_, rfl⟩
  have HC := Lib.hid hC
  have hCl : C.length = n := by rw [hC, col_length, hln.out]
  have hmc := mid_at (c := C) (by omega)
  have hmm := mid_mem (c := C) (by omega)
  have hmn := mid_count (c := C) (by omega)
  rw [← hC]
  obtain ⟨q, hq⟩ : ∃ q, q = (n - 1) / 2 := ⟨_, rfl⟩
  rw [hCl, ← hq] at hmn
  obtain ⟨p, hp⟩ := List.mem_iff_getElem?.1 hmm
  have hpn : p < n := by have := (List.getElem?_eq_some_iff.1 hp).1; omega
  have HP := Lib.hid hp
  have HMN := Lib.hid hmn
  have HMO := Lib.hid (fun x (h1 : lessN x C ≤ q) (h2 : q < lessN x C + sameN x C) => mid_of (c := C) (x := x) (by rw [hCl, ← hq]; exact h1) (by rw [hCl, ← hq]; exact h2))
  have HCL := Lib.hid hCl
  have q1 : ((n : Int) - 1) / 2 = (q : Int) := by rw [hq]; omega
  have q2 : ((n : Int) - 1).tdiv 2 = (q : Int) := by rw [hq, show ((n : Int) - 1) = ((n - 1 : Nat) : Int) by omega]; rfl
  have hq6 : q ≤ 6 := by omega
  have Q1 := Lib.hid q1
  have Q2 := Lib.hid q2
  clear hB hk hwd hC hCl hmc hmm hmn hp hq q1 q2
  go_enter Try.func65, Try.ntmps65
  go_wp2
  go_loopw [5] (fun i wr => ∃ j : Nat, j ≤ p ∧ i = .int .i64 j ∧ Below w.heap.size w wr) (fun i _ => n - (intOf i).toNat)
  case atStart => exact ⟨0, Nat.zero_le _, rfl, Below.refl _ _⟩
  case round =>
    obtain ⟨j, hj, rfl, hb⟩ := hrel
    have hlt : j < n := by omega
    obtain ⟨b, off, r, A', c', rfl, hbB, hx, c1, hc1, ha⟩ := h.row hlt
    obtain ⟨hra, hrw, hr1, hr20⟩ := hmem.out r (List.mem_of_getElem? hx)
    have hkr : k < r.length := by rw [hrw]; exact HK.out
    obtain ⟨b', off', x, rfl, hbB', hy, c2⟩ := ha.int hkr
    have hCj := Lib.hid (show C[j]? = some x by rw [HC.out, col_get hx, at0_of hy])
    obtain ⟨wo, rfl⟩ : ∃ wo : World, wo = wr := ⟨_, rfl⟩
    clear hx hy hra hrw
    go_wp2_with fail
    go_loopw [6, 7, 8] (fun le sa i wr => ∃ m : Nat, m ≤ n ∧ i = .int .i64 m ∧ le = .int .i64 (lessN x (C.take m)) ∧ sa = .int .i64 (sameN x (C.take m)) ∧ lessN x (C.take m) ≤ m ∧ sameN x (C.take m) ≤ m ∧ Below w.heap.size w wr) (fun _ _ i _ => n - (intOf i).toNat)
    case atStart => exact ⟨0, Nat.zero_le _, rfl, rfl, rfl, Nat.le_refl _, Nat.le_refl _, hb⟩
    case round =>
      clear hb
      obtain ⟨m, hm, rfl, rfl, rfl, l1, l2, hb⟩ := hrel
      by_cases hmn : m < n
      · obtain ⟨b2, off2, r2, A2, c2', e, hbB2, hx2, d1, hc2, ha2⟩ := h.row hmn
        injection e with e; injection e with e1 e2; subst e1; subst e2
        obtain ⟨hra2, hrw2, hr12, hr202⟩ := hmem.out r2 (List.mem_of_getElem? hx2)
        have hkr2 : k < r2.length := by rw [hrw2]; exact HK.out
        obtain ⟨b3, off3, y, rfl, hbB3, hy2, d2⟩ := ha2.int hkr2
        have hCm : C[m]? = some y := by rw [HC.out, col_get hx2, at0_of hy2]
        have e1 := Lib.hid (lessN_take x hCm)
        have e2 := Lib.hid (sameN_take x hCm)
        have g1 := (hb.cell (by exact hbB)).trans c1
        have g2 := (hb.cell (by exact hbB')).trans c2
        have g3 := (hb.cell (by exact hbB)).trans d1
        have g4 := (hb.cell (by exact hbB3)).trans d2
        have i1 : (j : Int) < (n : Int) := by omega
        have i2 : (m : Int) < (n : Int) := by omega
        have i3 : (k : Int) < (r.length : Int) := by omega
        have i4 : (k : Int) < (r2.length : Int) := by omega
        obtain ⟨LE, hLE⟩ : ∃ z, z = lessN x (C.take m) := ⟨_, rfl⟩
        obtain ⟨SA, hSA⟩ : ∃ z, z = sameN x (C.take m) := ⟨_, rfl⟩
        rw [← hLE] at e1 l1 ⊢
        rw [← hSA] at e2 l2 ⊢
        clear hx2 hy2 hCm hra2 hrw2 d1 d2 hLE hSA
        rcases (show y < x ∨ y = x ∨ x < y by omega) with hc | hc | hc
        · have f1 : decide (y < x) = true := decide_eq_true hc
          have f2 : (y == x) = false := by simp; omega
          have E1 := Lib.hid (show lessN x (C.take (m + 1)) = LE + 1 by rw [e1.out, if_pos hc])
          have E2 := Lib.hid (show sameN x (C.take (m + 1)) = SA by rw [e2.out, if_neg (by omega)]; rfl)
          clear hc e1 e2
          go_wp2_with fail
          go_quiet (fail)
          have h1 : (wr.drewN nq).cell? ⟨b, off + j, none⟩ = some (.slice (some ⟨b', off', none⟩) r.length c') := g1
          have h2 : (wr.drewN nq).cell? ⟨b', off' + k, none⟩ = some (.int .i64 x) := g2
          have h3 : (wr.drewN nq).cell? ⟨b, off + m, none⟩ = some (.slice (some ⟨b3, off3, none⟩) r2.length c2') := g3
          have h4 : (wr.drewN nq).cell? ⟨b3, off3 + k, none⟩ = some (.int .i64 y) := g4
          have B5 := below_drewN hb nq
          clear g1 g2 g3 g4 hb
          generalize wr.drewN nq = w5 at h1 h2 h3 h4 B5 ⊢
          go_wp2_with fail
          go_quiet (fail)
          have B6 := below_drewN B5 nq
          clear h1 h2 h3 h4 f1 f2
          go_wp2
          go_roundw
          case rel => exact ⟨m + 1, by omega, by go_num, by rw [E1.out]; go_num, by rw [E2.out], by rw [E1.out]; omega, by rw [E2.out]; omega, B6⟩
          case measure => simp [intOf]; omega
        · have f1 : decide (y < x) = false := decide_eq_false (by omega)
          have f2 : (y == x) = true := by simp; omega
          have E1 := Lib.hid (show lessN x (C.take (m + 1)) = LE by rw [e1.out, if_neg (by omega)]; rfl)
          have E2 := Lib.hid (show sameN x (C.take (m + 1)) = SA + 1 by rw [e2.out, if_pos hc])
          clear hc e1 e2
          go_wp2_with fail
          go_quiet (fail)
          have h1 : (wr.drewN nq).cell? ⟨b, off + j, none⟩ = some (.slice (some ⟨b', off', none⟩) r.length c') := g1
          have h2 : (wr.drewN nq).cell? ⟨b', off' + k, none⟩ = some (.int .i64 x) := g2
          have h3 : (wr.drewN nq).cell? ⟨b, off + m, none⟩ = some (.slice (some ⟨b3, off3, none⟩) r2.length c2') := g3
          have h4 : (wr.drewN nq).cell? ⟨b3, off3 + k, none⟩ = some (.int .i64 y) := g4
          have B5 := below_drewN hb nq
          clear g1 g2 g3 g4 hb
          generalize wr.drewN nq = w5 at h1 h2 h3 h4 B5 ⊢
          go_wp2_with fail
          go_quiet (fail)
          have B6 := below_drewN B5 nq
          clear h1 h2 h3 h4 f1 f2
          go_wp2
          go_roundw
          case rel => exact ⟨m + 1, by omega, by go_num, by rw [E1.out], by rw [E2.out]; go_num, by rw [E1.out]; omega, by rw [E2.out]; omega, B6⟩
          case measure => simp [intOf]; omega
        · have f1 : decide (y < x) = false := decide_eq_false (by omega)
          have f2 : (y == x) = false := by simp; omega
          have E1 := Lib.hid (show lessN x (C.take (m + 1)) = LE by rw [e1.out, if_neg (by omega)]; rfl)
          have E2 := Lib.hid (show sameN x (C.take (m + 1)) = SA by rw [e2.out, if_neg (by omega)]; rfl)
          clear hc e1 e2
          go_wp2_with fail
          go_quiet (fail)
          have h1 : (wr.drewN nq).cell? ⟨b, off + j, none⟩ = some (.slice (some ⟨b', off', none⟩) r.length c') := g1
          have h2 : (wr.drewN nq).cell? ⟨b', off' + k, none⟩ = some (.int .i64 x) := g2
          have h3 : (wr.drewN nq).cell? ⟨b, off + m, none⟩ = some (.slice (some ⟨b3, off3, none⟩) r2.length c2') := g3
          have h4 : (wr.drewN nq).cell? ⟨b3, off3 + k, none⟩ = some (.int .i64 y) := g4
          have B5 := below_drewN hb nq
          clear g1 g2 g3 g4 hb
          generalize wr.drewN nq = w5 at h1 h2 h3 h4 B5 ⊢
          go_wp2_with fail
          go_quiet (fail)
          have B6 := below_drewN B5 nq
          clear h1 h2 h3 h4 f1 f2
          go_wp2
          go_roundw
          case rel => exact ⟨m + 1, by omega, by go_num, by rw [E1.out], by rw [E2.out], by rw [E1.out]; omega, by rw [E2.out]; omega, B6⟩
          case measure => simp [intOf]; omega
      · obtain rfl : m = n := by omega
        have hCt : C.take m = C := List.take_of_length_le (by rw [HCL.out]; exact Nat.le_refl _)
        rw [hCt] at l1 l2 ⊢
        have g1 := (hb.cell (by exact hbB)).trans c1
        have g2 := (hb.cell (by exact hbB')).trans c2
        have i1 : (j : Int) < (m : Int) := by omega
        have hpx : j = p → lessN x C ≤ q ∧ q < lessN x C + sameN x C := fun e => by
          have h1 := hCj.out
          rw [e, HP.out] at h1
          injection h1 with h1
          rw [← h1]
          exact HMN.out
        have HPX := Lib.hid hpx
        have HMX := Lib.hid (HMO.out x)
        obtain ⟨LE, hLE⟩ : ∃ z, z = lessN x C := ⟨_, rfl⟩
        obtain ⟨SA, hSA⟩ : ∃ z, z = sameN x C := ⟨_, rfl⟩
        rw [← hLE] at HPX HMX l1 ⊢
        rw [← hSA] at HPX HMX l2 ⊢
        clear hpx hLE hSA hCt
        have q1 := Q1.out
        have q2 := Q2.out
        rcases (show (LE ≤ q ∧ q < LE + SA) ∨ q < LE ∨ (LE ≤ q ∧ LE + SA ≤ q) by omega) with ⟨hc1, hc2⟩ | hc1 | ⟨hc1, hc2⟩
        · have hfin := Lib.hid (HMX.out hc1 hc2)
          go_wp2
          go_ret
          exact ⟨ret_int hfin.out.symm, hb⟩
        · have hjp : j < p := by
            rcases Nat.lt_or_ge j p with h1 | h1
            · exact h1
            · have := HPX.out (by omega); omega
          go_wp2
          go_roundw
          case rel => exact ⟨j + 1, by omega, by go_num, hb⟩
          case measure => simp [intOf]; omega
        · have hjp : j < p := by
            rcases Nat.lt_or_ge j p with h1 | h1
            · exact h1
            · have := HPX.out (by omega); omega
          go_wp2
          go_roundw
          case rel => exact ⟨j + 1, by omega, by go_num, hb⟩
          case measure => simp [intOf]; omega

set_option maxHeartbeats 2000000 in
theorem specMiddle_any (A : Option Addr) (n c : Nat) (R : List (List Int)) (w : World) (h : Rows2 w w.heap.size A n R) (hn : n ≤ 1099511627776) (hrl : ∀ r ∈ R, r.length ≤ 1099511627776) :
    Calls Try.prog 43 #[.slice A n c] w (RetInts 3 w (midsR R) (stackB R)) := by
  obtain ⟨i0, hi, hz0, hz1, hz2⟩ := info_parts infoInt
  have C := fun W hW => specStackValid_any A n c R W hW hn hrl
  have o0 := Own.made II 1 w w.heap.size 3 (Nat.le_refl _)
  have h0 := (h.alloc (Nat.le_refl _) (.cells #[] 3)).more (show w.heap.size ≤ (w.alloc (.cells #[] 3)).heap.size by simp)
  have b0 : Below w.heap.size w (w.alloc (.cells #[] 3)) := (Below.refl w.heap.size w).alloc (Nat.le_refl _) _
  cases hB : stackB R with
  | false =>
    rw [hB] at C
    have C' := Lib.hid C
    have hL := Lib.hid (show midsR R = [] by unfold midsR; rw [hB]; rfl)
    clear C hB hrl
    go_enter Try.func43, Try.ntmps43
    go_wp2_with fail
    refine (C'.out _ h0).mono ?_
    rintro e w1 ⟨rfl, hb1⟩
    have o1 := o0.below hb1 (Nat.le_refl _)
    have b1 := b0.trans (hb1.mono b0.size)
    clear o0 b0 h0 hb1
    go_wp2
    go_ret2
    rw [hL.out]
    exact retInts_made o1 b1
  | true =>
    rw [hB] at C
    have C' := Lib.hid C
    have hL := Lib.hid (show midsR R = mids R (wid R) by unfold midsR; rw [hB]; rfl)
    obtain ⟨s1, s6⟩ := stack_len hB
    obtain ⟨m1, m20⟩ := stack_wid hB
    rw [h.len] at s1 s6
    obtain ⟨b0', off0, r0, A0, c0, hA0, hb0, hx0, d0, hd0, ha0⟩ := h.row (k := 0) (by omega)
    have hw0 := wid_of hx0
    obtain ⟨m, hm⟩ : ∃ m, m = wid R := ⟨_, rfl⟩
    have HM := Lib.hid hm
    rw [← hm] at m1 m20 hw0 hL
    rw [← hw0, Nat.add_zero] at d0
    subst hA0
    have K := Lib.hid (fun k W hW hk => l41Middle_any (some ⟨b0', off0, none⟩) n c k R W hW hB hk)
    clear C hB hrl hx0 hw0 ha0 hm
    have hn0 : 0 < n := by omega
    go_enter Try.func43, Try.ntmps43
    go_wp2_with fail
    refine (C'.out _ h0).mono ?_
    rintro e w1 ⟨rfl, hb1⟩
    have o1 := o0.below hb1 (Nat.le_refl _)
    have b1 := b0.trans (hb1.mono b0.size)
    clear o0 b0 h0 hb1 C'
    go_wp2
    go_loopw [4, 5] (fun v i wr => ∃ k : Nat, k ≤ m ∧ i = .int .i64 k ∧ Own II 1 wr w.heap.size 3 v k (mids R k) ∧ Below w.heap.size w wr) (fun _ i _ => m - (intOf i).toNat)
    case atStart => exact ⟨0, Nat.zero_le _, rfl, o1, b1⟩
    case round =>
      clear o1 b1
      obtain ⟨k, hk, rfl, hw, hb⟩ := hrel
      have d1 := (hb.cell (by exact hb0)).trans d0
      by_cases hlt : k < m
      · have hS := Lib.hid (mids_succ R k)
        have hkw : k < wid R := by rw [← HM.out]; exact hlt
        have K' := Lib.hid (K.out k _ ((h.below' hb).more hb.size) hkw)
        clear hkw
        go_wp2_with fail
        refine K'.out.mono ?_
        rintro e w2 ⟨rfl, hb2⟩
        have hw2 := hw.below hb2 (Nat.le_refl _)
        have B2 := hb.trans (hb2.mono hb.size)
        clear hw hb hb2
        go_wp2_with (at_builtin; refine wpList_append_own _ rfl _ _ 28 rfl w.heap.size 3 i0 (.int .i64 0) 1 8 Try.underlying28 hi hz0 hz1 hz2 rfl (by decide) _ _ _ rfl (hw2.2.alloc _) ⟨w2.heap.size, 0, none⟩ 1 1 [.int .i64 (mid (col R k))] rfl rfl ?c1 ?c2 ?c3 ?c4 ?c5 ?_)
        case c1 => exact cell_new1 _ _ _
        case c2 => exact one_II _
        case c3 => unfold maxLen; omega
        case c4 => omega
        case c5 => have := B2.size; simp; omega
        intro v' w4 hown' hg4 _
        have hw4 : Own II 1 w4 w.heap.size 3 v' (k + 1) (mids R k ++ [mid (col R k)]) := Own.snoc' hw2.1 (by simp [II]) hown'
        rw [← hS.out] at hw4
        have hb4 := (B2.alloc B2.size (.cells #[.int .i64 (mid (col R k))] 3)).grown hg4 (by have := B2.size; simp; omega) (fun j hj => (hw2.2.lt j hj).1)
        clear hown' hg4 hw2 B2 d1
        go_wp2
        go_roundw
        case rel => exact ⟨k + 1, by omega, by go_num, hw4, hb4⟩
        case measure => simp [intOf]; omega
      · obtain rfl : k = m := by omega
        obtain ⟨A2, c2, rfl, _, _⟩ := hw.form
        go_wp2
        go_ret2
        exact retInts_yes hL.out.symm hw hb
end Go.Proofs.Ytfohfcpnhhiemaa
