/-
  Contracts: the program's and the reference's StackFar.
-/
import Derived.Test.YtfohfcpnhhiemaaStackSum
namespace Go.Proofs.Ytfohfcpnhhiemaa
open Go.RowKit
set_option linter.unusedSimpArgs false
set_option linter.unusedVariables false

theorem far_bad {R : List (List Int)} {i : Int} (h : ¬ (stackB R = true ∧ 0 ≤ i ∧ i < (R.length : Int))) : far R i = -1 := by unfold far; rw [if_neg h]
theorem far_good {R : List (List Int)} {i : Nat} {r : List Int} (h : stackB R = true) (hr : R[i]? = some r) : far R (i : Int) = farOf R r (wid R) := by
  have hl := (List.getElem?_eq_some_iff.1 hr).1
  unfold far
  rw [if_pos ⟨h, by omega, by omega⟩, Int.toNat_natCast, List.getD_eq_getElem?_getD, hr]
  rfl
theorem absI_bd {x b : Int} (h1 : -b ≤ x) (h2 : x ≤ b) : 0 ≤ absI x ∧ absI x ≤ b := by unfold absI; omega
theorem far_term {R : List (List Int)} {r : List Int} (h : stackB R = true) (hr : r ∈ R) (k : Nat) : -120000 ≤ (R.length : Int) * at0 r k - sumAt R k ∧ (R.length : Int) * at0 r k - sumAt R k ≤ 120000 ∧ -60000 ≤ (R.length : Int) * at0 r k ∧ (R.length : Int) * at0 r k ≤ 60000 := by
  have h1 := at0_bd (stack_all h r hr) k
  have h2 := stack_len h
  have h3 := stack_sum_bd h k
  have a1 : (R.length : Int) * at0 r k ≤ (R.length : Int) * 10000 := Int.mul_le_mul_of_nonneg_left h1.2 (by omega)
  have a2 : (R.length : Int) * (-10000) ≤ (R.length : Int) * at0 r k := Int.mul_le_mul_of_nonneg_left h1.1 (by omega)
  omega
theorem farOf_bd {R : List (List Int)} {r : List Int} (h : stackB R = true) (hr : r ∈ R) : ∀ k : Nat, 0 ≤ farOf R r k ∧ farOf R r k ≤ 120000 * (k : Int) := by
  intro k
  induction k with
  | zero => simp [farOf]
  | succ k ih =>
    have h1 := far_term h hr k
    have h2 := absI_bd h1.1 h1.2.1
    simp only [farOf]
    omega

set_option maxHeartbeats 2000000 in
theorem implFar_any (A : Option Addr) (n c : Nat) (R : List (List Int)) (i : Int) (w : World) (h : Rows2 w w.heap.size A n R) (hn : n ≤ 1099511627776) (hrl : ∀ r ∈ R, r.length ≤ 1099511627776) :
    Calls Try.prog 17 #[.slice A n c, .int .i64 i] w fun e w' => e = .returned (.int .i64 (far R i)) ∧ Below w.heap.size w w' := by
  have C := implSum_any A n c R w h hn hrl
  have hln := Lib.hid h.len
  cases hB : stackB R with
  | false =>
    rw [hB, show sumsR R = [] by unfold sumsR; rw [hB]; rfl] at C
    have C' := Lib.hid C
    have hL := Lib.hid (far_bad (R := R) (i := i) (by rw [hB]; simp))
    clear C hB hrl
    go_enter Try.func17, Try.ntmps17
    go_wp2_with fail
    refine C'.out.mono ?_
    rintro e w1 ⟨A1, n1, c1, rfl, o1, b1⟩
    go_wp2
    go_ret
    exact ⟨ret_int hL.out.symm, b1⟩
  | true =>
    rw [hB, show sumsR R = sums R (wid R) by unfold sumsR; rw [hB]; rfl] at C
    have C' := Lib.hid C
    by_cases hi : 0 ≤ i ∧ i < (n : Int)
    · obtain ⟨hi0, hi1⟩ := hi
      obtain ⟨i, rfl⟩ : ∃ z : Nat, i = (z : Int) := ⟨i.toNat, by omega⟩
      obtain ⟨b, off, r, A', c', rfl, hbB, hx, d1, hc1, ha⟩ := h.row (k := i) (by omega)
      have hmr := stack_mem hB (List.mem_of_getElem? hx)
      have hL := Lib.hid (far_good hB hx)
      have hT := Lib.hid (fun k => far_term hB (List.mem_of_getElem? hx) k)
      have hFb := Lib.hid (farOf_bd hB (List.mem_of_getElem? hx))
      have hsb := Lib.hid (stack_sum_bd hB)
      obtain ⟨s1, s6⟩ := stack_len hB
      rw [h.len] at s1 s6
      rw [h.len] at hT
      obtain ⟨m, hm⟩ : ∃ m, m = wid R := ⟨_, rfl⟩
      have hmw := hmr.2.1
      have hm20 := hmr.2.2
      rw [hmw, ← hm] at hm20 ha d1 hc1
      rw [← hm] at hL C'
      have HT := hT
      have h0 : (0 : Int) ≤ (i : Int) := hi0
      clear C hB hrl hx hmr hmw hm
      go_enter Try.func17, Try.ntmps17
      go_wp2_with fail
      refine C'.out.mono ?_
      rintro e w1 ⟨A1, n1, c1, rfl, o1, b1⟩
      have hn1 := o1.1
      rw [sums_length] at hn1
      obtain rfl := hn1
      have a1 := o1.arr II_length
      have d1' := (b1.cell (by exact hbB)).trans d1
      clear C' d1 o1
      go_wp2
      go_loopw [7, 33] (fun s k wr => ∃ j : Nat, j ≤ m ∧ k = .int .i64 j ∧ s = .int .i64 (farOf R r j) ∧ Below w1.heap.size w1 wr) (fun _ k _ => m - (intOf k).toNat)
      case atStart => exact ⟨0, Nat.zero_le _, rfl, rfl, Below.refl _ _⟩
      case round =>
        obtain ⟨j, hj, rfl, rfl, hb⟩ := hrel
        by_cases hlt : j < m
        · obtain ⟨b', off', x, e, hbB', hx, c2⟩ := ha.int hlt
          subst e
          obtain ⟨b2, off2, y, e, hbB2, hy, c3⟩ := a1.int hlt
          subst e
          rw [sums_get R hlt] at hy
          injection hy with hy
          have c2' := (hb.cell (show b' < w1.heap.size by have := b1.size; omega)).trans ((b1.cell (by exact hbB')).trans c2)
          have c3' := (hb.cell (by exact hbB2)).trans c3
          obtain ⟨t1, t2, t3, t4⟩ := hT.out j
          have t5 := hsb.out j
          have t6 := hFb.out j
          have hS := Lib.hid (show farOf R r (j + 1) = farOf R r j + absI ((n : Int) * x - y) by
            have e1 := hln.out
            rw [farOf, e1, at0_of hx, hy])
          rw [at0_of hx] at t1 t2 t3 t4
          rw [hy] at t1 t2 t5
          obtain ⟨F, hF⟩ : ∃ F, F = farOf R r j := ⟨_, rfl⟩
          rw [← hF] at t6 hS ⊢
          have hF5 : F ≤ 120000 * 30 := by omega
          have hF0 : 0 ≤ F := by omega
          clear hx hy hF c2 c3 t5 t6
          have key : ∀ v : Int, v = F + absI ((n : Int) * x - y) → Hid (farOf R r (j + 1) = v) := fun v hv => by rw [hv]; exact hS
          have KEY := Lib.hid key
          clear key hS
          rcases (show (n : Int) * x - y < 0 ∨ (n : Int) * x - y = 0 ∨ 0 < (n : Int) * x - y by omega) with hd | hd | hd
          · have K := KEY.out (F + -((n : Int) * x - y)) (by unfold absI; omega)
            go_wp2
            go_roundw
            case rel => exact ⟨j + 1, by omega, by go_num, by rw [K.out], hb⟩
            case measure => simp [intOf]; omega
          · have K := KEY.out F (by unfold absI; omega)
            have hd1 : (n : Int) * x - y ≤ 0 := by omega
            have hd2 : 0 ≤ (n : Int) * x - y := by omega
            have hdz : (n : Int) * x = y := by omega
            clear hd
            go_wp2
            go_roundw
            case rel => exact ⟨j + 1, by omega, by go_num, by first | (rw [K.out]; done) | (rw [K.out]; congr 1; omega), hb⟩
            case measure => simp [intOf]; omega
          · have K := KEY.out (F + ((n : Int) * x - y)) (by unfold absI; omega)
            go_wp2
            go_roundw
            case rel => exact ⟨j + 1, by omega, by go_num, by rw [K.out], hb⟩
            case measure => simp [intOf]; omega
        · obtain rfl : j = m := by omega
          go_wp2
          go_ret
          exact ⟨ret_int hL.out.symm, b1.trans (hb.mono b1.size)⟩
    · have hL := Lib.hid (far_bad (R := R) (i := i) (by rw [hB, hln.out]; intro hh; exact hi hh.2))
      clear C hB hrl
      rcases (show i < 0 ∨ (0 ≤ i ∧ (n : Int) ≤ i) by omega) with h1 | ⟨h1, h2⟩
      all_goals
        clear hi
        go_enter Try.func17, Try.ntmps17
        go_wp2_with fail
        refine C'.out.mono ?_
        rintro e w1 ⟨A1, n1, c1, rfl, o1, b1⟩
        go_wp2
        go_ret
        exact ⟨ret_int hL.out.symm, b1⟩

theorem l2Abs_any (x : Int) (h1 : -1000000 ≤ x) (h2 : x ≤ 1000000) (w : World) : Calls Try.prog 51 #[.int .i64 x] w fun e w' => e = .returned (.int .i64 (absI x)) ∧ w = w' := by
  rcases (show x < 0 ∨ x = 0 ∨ 0 < x by omega) with h | h | h
  · have e := Lib.hid (show absI x = 0 - x by unfold absI; omega)
    go_enter Try.func51, Try.ntmps51
    go_wp2
    go_ret
    exact ⟨ret_int (by rw [e.out]; first | rfl | omega), rfl⟩
  · subst h
    go_enter Try.func51, Try.ntmps51
    go_wp2
    go_ret
    exact ⟨rfl, rfl⟩
  · have e := Lib.hid (show absI x = x by unfold absI; omega)
    go_enter Try.func51, Try.ntmps51
    go_wp2
    go_ret
    exact ⟨ret_int (by rw [e.out]), rfl⟩

set_option maxHeartbeats 2000000 in
theorem specFar_any (A : Option Addr) (n c : Nat) (R : List (List Int)) (i : Int) (w : World) (h : Rows2 w w.heap.size A n R) (hn : n ≤ 1099511627776) (hrl : ∀ r ∈ R, r.length ≤ 1099511627776) :
    Calls Try.prog 18 #[.slice A n c, .int .i64 i] w fun e w' => e = .returned (.int .i64 (far R i)) ∧ Below w.heap.size w w' := by
  have C := specStackValid_any A n c R w h hn hrl
  have hln := Lib.hid h.len
  cases hB : stackB R with
  | false =>
    rw [hB] at C
    have C' := Lib.hid C
    have hL := Lib.hid (far_bad (R := R) (i := i) (by rw [hB]; simp))
    clear C hB hrl
    go_enter Try.func18, Try.ntmps18
    go_wp2_with fail
    refine C'.out.mono ?_
    rintro e w1 ⟨rfl, b1⟩
    go_wp2
    go_ret
    exact ⟨ret_int hL.out.symm, b1⟩
  | true =>
    rw [hB] at C
    have C' := Lib.hid C
    obtain ⟨s1, s6⟩ := stack_len hB
    rw [h.len] at s1 s6
    cases hi : decide (0 ≤ i ∧ i ≤ (n : Int) - 1) with
    | true =>
      have I := Lib.hid (fun w => l6In_any i 0 ((n : Int) - 1) _ hi w)
      obtain ⟨hi0, hi1⟩ := of_decide_eq_true hi
      obtain ⟨i, rfl⟩ : ∃ z : Nat, i = (z : Int) := ⟨i.toNat, by omega⟩
      obtain ⟨b, off, r, A', c', rfl, hbB, hx, d1, hc1, ha⟩ := h.row (k := i) (by omega)
      obtain ⟨b0, off0, r0, A0, c0, e, _, hx0, d0, hd0, ha0⟩ := h.row (k := 0) (by omega)
      injection e with e; injection e with e1 e2; subst e1; subst e2
      rw [Nat.add_zero] at d0
      have hw0 := wid_of hx0
      have hmr := stack_mem hB (List.mem_of_getElem? hx)
      have hL := Lib.hid (far_good hB hx)
      have hT := Lib.hid (fun k => far_term hB (List.mem_of_getElem? hx) k)
      have hFb := Lib.hid (farOf_bd hB (List.mem_of_getElem? hx))
      have hsb := Lib.hid (stack_sum_bd hB)
      rw [h.len] at hT
      have KS := Lib.hid (fun k W hW hk => l41Sum_any (some ⟨b, off, none⟩) n c k R W hW hB hk)
      obtain ⟨m, hm⟩ : ∃ m, m = wid R := ⟨_, rfl⟩
      have hmw := hmr.2.1
      have hm20 := hmr.2.2
      rw [hmw, ← hm] at hm20 ha d1 hc1
      rw [← hm] at hL hw0 KS
      rw [← hw0] at d0
      clear C hB hrl hx hx0 hmr hmw hm ha0 hw0 hd0 hi
      go_enter Try.func18, Try.ntmps18
      go_wp2_with fail
      refine C'.out.mono ?_
      rintro e w1 ⟨rfl, b1⟩
      go_wp2_with fail
      refine (I.out _).mono ?_
      rintro e w2 ⟨rfl, rfl⟩
      clear C' I
      have d1' := (b1.cell (by exact hbB)).trans d1
      go_wp2
      go_loopw [5, 6] (fun s k wr => ∃ j : Nat, j ≤ m ∧ k = .int .i64 j ∧ s = .int .i64 (farOf R r j) ∧ Below w.heap.size w wr) (fun _ k _ => m - (intOf k).toNat)
      case atStart => exact ⟨0, Nat.zero_le _, rfl, rfl, b1⟩
      case round =>
        obtain ⟨j, hj, rfl, rfl, hb⟩ := hrel
        have d0r := (hb.cell (by exact hbB)).trans d0
        by_cases hlt : j < m
        · obtain ⟨b', off', x, e, hbB', hx, c2⟩ := ha.int hlt
          subst e
          have c2' := (hb.cell (by exact hbB')).trans c2
          have d1r := (hb.cell (by exact hbB)).trans d1
          have D1 := Later.cell (w0 := wr) (B := w.heap.size) (by exact hbB) d1r
          have D2 := Later.cell (w0 := wr) (B := w.heap.size) (by exact hbB') c2'
          obtain ⟨t1, t2, t3, t4⟩ := hT.out j
          have t5 := hsb.out j
          have t6 := hFb.out j
          have hS := Lib.hid (show farOf R r (j + 1) = farOf R r j + absI ((n : Int) * x - sumAt R j) by
            have e1 := hln.out
            rw [farOf, e1, at0_of hx])
          rw [at0_of hx] at t1 t2 t3 t4
          have K1 := Lib.hid (fun (u : Later w.heap.size wr) => KS.out j u.1 ((h.below' (hb.trans u.2)).more (Nat.le_trans hb.size u.2.size)) hlt)
          have ik : (i : Int) < (n : Int) := by omega
          have ik0 : (0 : Int) ≤ (i : Int) := by omega
          have jk : (j : Int) < (m : Int) := by omega
          have jk0 : (0 : Int) ≤ (j : Int) := by omega
          generalize sumAt R j = y at *
          have ab := absI_bd t1 t2
          have BP : -4611686018427387904 ≤ (n : Int) * x ∧ (n : Int) * x ≤ 4611686018427387904 := by omega
          have BD : -4611686018427387904 ≤ (n : Int) * x - y ∧ (n : Int) * x - y ≤ 4611686018427387904 := by omega
          have AB := Lib.hid (fun w => l2Abs_any ((n : Int) * x - y) (by omega) (by omega) w)
          obtain ⟨F, hF⟩ : ∃ F, F = farOf R r j := ⟨_, rfl⟩
          rw [← hF] at t6 hS ⊢
          obtain ⟨Z, hZ⟩ : ∃ Z, Z = absI ((n : Int) * x - y) := ⟨_, rfl⟩
          rw [← hZ] at AB hS ab
          have BF : -4611686018427387904 ≤ F + Z ∧ F + Z ≤ 4611686018427387904 := by omega
          clear hx hF hZ c2 c2' d1r t1 t2 t3 t4 t5 t6 ab d1'
          have e1 : wrap64 ((n : Int) * x) = (n : Int) * x := w64' BP
          have e2 : wrap64 ((n : Int) * x - y) = (n : Int) * x - y := w64' BD
          have e3 : wrap64 (F + Z) = F + Z := w64' BF
          have E3 := Lib.hid e3
          clear BP BD BF
          go_wp2_with fail
          refine wp_region_under (B := w.heap.size) (w0 := wr) (by kernel_rfl) (by kernel_rfl) (Below.refl _ _) ?_
          repeat (go_big_quiet_step ((first
            | (go_at_call 52; exact Calls.underSame (K1.out _))
            | (go_at_call 51; exact Calls.underSame (AB.out _)))))
          refine wpQuiet_nil ?_
          rintro w2 ⟨u, hu⟩
          have hb2 := u.2
          rw [← hu] at hb2
          clear hu D1 D2 e1 e2 e3
          go_wp2
          go_roundw
          case rel => exact ⟨j + 1, by omega, by go_num, by rw [hS.out, E3.out], hb.trans hb2⟩
          case measure => simp [intOf]; omega
        · obtain rfl : j = m := by omega
          go_wp2
          go_ret
          exact ⟨ret_int hL.out.symm, hb⟩
    | false =>
      have I := Lib.hid (fun w => l6In_any i 0 ((n : Int) - 1) _ hi w)
      have hL := Lib.hid (far_bad (R := R) (i := i) (by rw [hB, hln.out]; intro hh; have := of_decide_eq_false hi; omega))
      clear C hB hrl hi
      go_enter Try.func18, Try.ntmps18
      go_wp2_with fail
      refine C'.out.mono ?_
      rintro e w1 ⟨rfl, b1⟩
      go_wp2_with fail
      refine (I.out _).mono ?_
      rintro e w2 ⟨rfl, rfl⟩
      go_wp2
      go_ret
      exact ⟨ret_int hL.out.symm, b1⟩
end Go.Proofs.Ytfohfcpnhhiemaa
