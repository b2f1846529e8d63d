/-
  The walk of the law FnWithout.
-/
import Derived.Test.YtfohfcpnhhiemaaSpecWithout
import Derived.Test.YtfohfcpnhhiemaaSameRows
import Derived.Test.YtfohfcpnhhiemaaDrawStacks
namespace Go.Proofs.Ytfohfcpnhhiemaa
open Go.RowKit
set_option linter.unusedSimpArgs false
set_option linter.unusedVariables false

theorem sumAt_erase {R : List (List Int)} {p : Nat} {r : List Int} (h : R[p]? = some r) (k : Nat) : sumAt (R.eraseIdx p) k + at0 r k = sumAt R k := by
  induction R generalizing p with
  | nil => simp at h
  | cons a t ih =>
    cases p with
    | zero => simp at h; subst h; simp only [List.eraseIdx_cons_zero, sumAt]; omega
    | succ p => simp at h; simp only [List.eraseIdx_cons_succ, sumAt]; have := ih h; omega
theorem erase_stack {R : List (List Int)} {p : Nat} (hB : stackB R = true) (hp : p < R.length) (h1 : R.length ≠ 1) : stackB (R.eraseIdx p) = true ∧ wid (R.eraseIdx p) = wid R ∧ (R.eraseIdx p).length = R.length - 1 := by
  have hl : (R.eraseIdx p).length = R.length - 1 := List.length_eraseIdx_of_lt hp
  have s := stack_len hB
  have hm : ∀ r ∈ R.eraseIdx p, r ∈ R := fun r hr => List.mem_of_mem_eraseIdx hr
  have hw : wid (R.eraseIdx p) = wid R := by
    cases hE : R.eraseIdx p with
    | nil => rw [hE] at hl; simp at hl; omega
    | cons a t => exact (stack_mem hB (hm a (by rw [hE]; exact List.mem_cons_self ..))).2.1
  refine ⟨(stackB_iff _).2 ⟨fun r hr => ?_, by omega⟩, hw, hl⟩
  have := stack_mem hB (hm r hr)
  exact ⟨(rowB_iff r).2 ⟨this.1, this.2.2⟩, by rw [hw]; exact this.2.1⟩

set_option maxRecDepth 100000 in
set_option maxHeartbeats 4000000 in
theorem walk_FnWithout (w : World) (A : Option Addr) (n c : Nat) (l : List Int) (h : Arr BB 1 w w.heap.size A n l) (hby : ∀ x ∈ l, 0 ≤ x ∧ x ≤ 255) (hc : n ≤ c) :
    Calls Try.prog 5 #[.slice A n c] w fun e w' => e = .returned (.bool true) ∧ Below w.heap.size w w' := by
  have C := Lib.hid (DrawStackWithout_any A n c l w h hby hc)
  clear hby h
  by_cases hb : 1048576 < n
  · go_enter Try.func5, Try.ntmps5
    go_wp2_with fail
    go_ret
    exact ⟨rfl, Below.refl _ _⟩
  go_enter Try.func5, Try.ntmps5
  go_wp2_with fail
  refine C.out.mono ?_
  rintro e w1 ⟨A1, n1, c1, vs, R, i, rfl, ho, hc1, hn1, hR, i1, i2, b1⟩
  have a1 := ho.rows
  have hR' := Lib.hid (fun (r : List Int) (hr : r ∈ R) => show r.length ≤ 1099511627776 by have := hR r hr; omega)
  have hln := Lib.hid a1.len
  have hlen := a1.len
  clear C ho hR
  have K1 := Lib.hid (fun W h1 => implWithout_any A1 n1 c1 R i W h1 (by omega) hR'.out)
  have K2 := Lib.hid (fun W h1 => specWithout_any A1 n1 c1 R i W h1 (by omega) hR'.out)
  have hRw := Lib.hid (show (woR R i).length ≤ 5 ∧ ∀ r ∈ woR R i, r.length ≤ 1099511627776 by
    unfold woR
    split
    · refine ⟨?_, fun r hr => hR'.out r (List.mem_of_mem_eraseIdx hr)⟩
      have := List.length_eraseIdx_le R i.toNat
      omega
    · exact ⟨by simp, fun r hr => by simp at hr⟩)
  go_wp2_with fail
  refine (K1.out _ a1).mono ?_
  rintro e w2 ⟨A2, n2, c2, us, rfl, o2, hc2, b2⟩
  have B2 := b1.trans (b2.mono b1.size)
  have a2 := (a1.below' b2).more b2.size
  have x2 := o2.rows
  have hn2 := o2.lenR
  clear a1 b1 b2 o2
  go_wp2_with fail
  refine (K2.out _ a2).mono ?_
  rintro e w3 ⟨A3, n3, c3, us3, rfl, o3, hc3, b3⟩
  have B3 := B2.trans (b3.mono B2.size)
  have a3 := (a2.below' b3).more b3.size
  have x3 := (x2.below' b3).more b3.size
  have hn2' : n2 ≤ 5 := by have := hRw.out.1; omega
  have HS := Lib.hid (fun W (hW : Below w3.heap.size w3 W) => sameRows_any A2 n2 c2 A3 n3 c3 (woR R i) W ((x3.below' hW).more hW.size) ((o3.rows.below' hW).more hW.size) (by omega) hRw.out.2)
  clear a2 b3 B2 x2 o3 K1 K2
  cases hW : woB R i with
  | false =>
    go_wp2_with fail
    refine (HS.out _ (Below.refl _ _)).mono ?_
    rintro e w4 ⟨rfl, b4⟩
    go_wp2_with fail
    refine (HS.out _ b4).mono ?_
    rintro e w5 ⟨rfl, b5⟩
    go_wp2
    go_ret
    exact ⟨rfl, B3.trans ((b4.trans (b5.mono b4.size)).mono B3.size)⟩
  | true =>
    obtain ⟨hB, hi0, hi1, hi2⟩ := (woB_iff R i).1 hW
    rw [hlen] at hi1 hi2
    obtain ⟨p, rfl⟩ : ∃ p : Nat, i = p := ⟨i.toNat, by omega⟩
    have hQ : woR R p = R.eraseIdx p := by unfold woR; rw [hW]; rfl
    obtain ⟨q1, q2, q3⟩ := erase_stack hB (p := p) (by omega) (by omega)
    obtain ⟨s1, s6⟩ := stack_len hB
    obtain ⟨m1, m20⟩ := stack_wid hB
    obtain ⟨Q, hQE⟩ : ∃ Q, Q = R.eraseIdx p := ⟨_, rfl⟩
    rw [← hQE] at hQ q1 q2 q3
    rw [hQ] at x3 hn2 hRw
    obtain ⟨m, hm⟩ : ∃ m, m = wid R := ⟨_, rfl⟩
    have K5 := Lib.hid (fun W h1 => implSum_any A1 n1 c1 R W h1 (by omega) hR'.out)
    have K6 := Lib.hid (fun W h1 => implSum_any A2 n2 c2 Q W h1 (by omega) hRw.out.2)
    have K7 := Lib.hid (fun W h1 => implStackValid_any A2 n2 c2 Q W h1 (by omega) hRw.out.2)
    rw [hB, show sumsR R = sums R m by unfold sumsR; rw [hB, hm]; rfl] at K5
    rw [q1, show sumsR Q = sums Q m by unfold sumsR; rw [q1, q2, hm]; rfl] at K6
    rw [q1] at K7
    have hmem := Lib.hid (fun r hr => stack_mem hB (r := r) hr)
    have HB := Lib.hid hB
    have HM := Lib.hid hm
    have HQ := Lib.hid hQE
    have HL := Lib.hid q3
    have e2 : n2 = n1 - 1 := by omega
    have fN : (n2 : Int) = (n1 : Int) - 1 := by omega
    have FN := Lib.hid fN
    have E2 := Lib.hid e2
    rw [← hm] at m1 m20
    clear hW hQ q1 q2 q3 hm hQE hlen hB fN e2 hn2
    go_wp2_with fail
    refine (HS.out _ (Below.refl _ _)).mono ?_
    rintro e w4 ⟨rfl, b4⟩
    have B4 := B3.trans (b4.mono B3.size)
    have a4 := (a3.below' b4).more b4.size
    have x4 := (x3.below' b4).more b4.size
    clear HS a3 x3 b4 B3
    go_wp2_with fail
    refine (K5.out _ a4).mono ?_
    rintro e w5 ⟨A5, n5, c5, rfl, o5, b5⟩
    have B5 := B4.trans (b5.mono B4.size)
    have a5 := (a4.below' b5).more b5.size
    have x5 := (x4.below' b5).more b5.size
    have y5 := o5.arr II_length
    obtain rfl : m = n5 := by rw [← sums_length R m]; exact o5.1
    clear a4 x4 b5 B4 o5 K5
    go_wp2_with fail
    refine (K6.out _ x5).mono ?_
    rintro e w6 ⟨A6, n6, c6, rfl, o6, b6⟩
    have B6 := B5.trans (b6.mono B5.size)
    have a6 := (a5.below' b6).more b6.size
    have x6 := (x5.below' b6).more b6.size
    have y6 := (y5.below' b6).more b6.size
    have z6 := o6.arr II_length
    obtain rfl : m = n6 := by rw [← sums_length Q m]; exact o6.1
    clear a5 x5 b6 B5 o6 K6 y5
    obtain ⟨b0, off0, r0, A0, c0, e0, hb0, hx0, d0, hd0, ha0⟩ := a6.row (k := 0) (by omega)
    obtain ⟨bp, offp, rp, Ap, cp, ep, hbp, hxp, dp, hdp, hap⟩ := a6.row (k := p) (by omega)
    rw [e0] at ep
    injection ep with ep
    injection ep with ep1 ep2
    subst ep1; subst ep2; subst e0
    have hw0 := wid_of hx0
    rw [← HM.out] at hw0
    rw [Nat.add_zero, ← hw0] at d0
    have hwp := (hmem.out rp (List.mem_of_getElem? hxp)).2.1
    have hpa := Lib.hid (hmem.out rp (List.mem_of_getElem? hxp)).1
    rw [← HM.out] at hwp
    rw [hwp] at dp
    have HXP := Lib.hid hxp
    have ip1 : (p : Int) < (n1 : Int) := by omega
    have ip0 : (0 : Int) ≤ (p : Int) := by omega
    clear hx0 hw0 ha0 hd0 hxp hdp
    go_wp2_with fail
    go_loopw [13] (fun k wr => ∃ k' : Nat, k' ≤ m ∧ k = .int .i64 k' ∧ Below w6.heap.size w6 wr) (fun k _ => m - (intOf k).toNat)
    case atStart => exact ⟨0, Nat.zero_le _, rfl, Below.refl _ _⟩
    case round =>
      obtain ⟨k, hk, rfl, hbo⟩ := hrel
      by_cases hkm : k < m
      · obtain ⟨b1, off1, X, rfl, hb1, hX, p1⟩ := y6.int hkm
        obtain ⟨b2, off2, Z, rfl, hb2, hZ, p2⟩ := z6.int hkm
        obtain ⟨b3, off3, y, rfl, hb3, hy, p3⟩ := hap.int (k := k) (by omega)
        rw [sums_get _ hkm] at hX hZ
        injection hX with hX
        injection hZ with hZ
        have hsum := sumAt_erase HXP.out k
        rw [← HQ.out, hZ, hX, at0_of hy] at hsum
        have hXb := stack_sum_bd HB.out k
        rw [hX] at hXb
        have eW : IntKind.i64.wrap (Z + y) = X := by rw [hsum]; exact IntWalk.i64_in _ (by omega)
        have g0 := (hbo.cell (by exact hb0)).trans dp
        have g1 := (hbo.cell (by exact hb1)).trans p1
        have g2 := (hbo.cell (by exact hb2)).trans p2
        have g3 := (hbo.cell (by exact hb3)).trans p3
        have f1 : ((m : Int) != (m : Int)) = false := by simp
        have f2 : (X != X) = false := by simp
        have ik : (k : Int) < (m : Int) := by omega
        have ik0 : (0 : Int) ≤ (k : Int) := by omega
        clear hX hZ hy hsum hXb p1 p2 p3
        go_wp2_with fail
        go_quiet (fail)
        have b10 := below_drewN hbo nq
        clear g0 g1 g2 g3 f1 f2 eW
        go_wp2
        go_roundw
        case rel => exact ⟨k + 1, by omega, by go_num, b10⟩
        case measure => simp [intOf]; omega
      · obtain rfl : k = m := by omega
        have f3 : ((n2 : Int) == (n1 : Int) - 1) = true := by rw [FN.out]; simp
        have x7 := (x6.below' hbo).more hbo.size
        have g0 := (hbo.cell (by exact hb0)).trans d0
        have in0 : (0 : Int) < (n1 : Int) := by omega
        go_wp2_with fail
        refine (K7.out _ x7).mono ?_
        rintro e w8 ⟨rfl, rfl⟩
        go_wp2
        go_ret
        exact ⟨rfl, B6.trans (hbo.mono B6.size)⟩
end Go.Proofs.Ytfohfcpnhhiemaa
