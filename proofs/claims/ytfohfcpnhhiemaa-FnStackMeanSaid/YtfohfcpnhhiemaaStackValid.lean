/-
  Contracts: isRow, l13Row, l6In, the program's and the reference's StackValid.
-/
import Derived.Test.YtfohfcpnhhiemaaKitR
import Derived.Test.YtfohfcpnhhiemaaPlainR
import Derived.Test.YtfohfcpnhhiemaaPlainS
import Derived.Test.YtfohfcpnhhiemaaUnder
namespace Go.Proofs.Ytfohfcpnhhiemaa
open Go.RowKit
set_option linter.unusedSimpArgs false
set_option linter.unusedVariables false

set_option maxHeartbeats 400000 in
theorem isRow_any (A : Option Addr) (n c : Nat) (r : List Int) (w : World) (h : Arr II 1 w w.heap.size A n r) (hn : n ≤ 1099511627776) :
    Calls Try.prog 59 #[.slice A n c] w fun e w' => e = .returned (.bool (rowB r)) ∧ w = w' := by
  have hln := Lib.hid h.1
  go_enter Try.func59, Try.ntmps59
  go_wp2
  go_loop [7] (fun i => ∃ k : Nat, k ≤ n ∧ i = .int .i64 k ∧ (r.take k).all numB = true) (fun i => n - (intOf i).toNat)
  case atStart => exact ⟨0, Nat.zero_le _, rfl, rfl⟩
  case round =>
    obtain ⟨k, hk, rfl, hall⟩ := hrel
    have hall' := Lib.hid hall
    clear hall
    by_cases hlt : k < n
    · obtain ⟨b, off, x, rfl, hbB, hx, c1⟩ := h.int hlt
      have hx' := Lib.hid hx
      clear hx
      by_cases hok : -10000 ≤ x ∧ x ≤ 10000
      · obtain ⟨h1, h2⟩ := hok
        go_wp2
        go_round
        case rel => exact ⟨k + 1, by omega, by go_num, by rw [take_snoc hx'.out]; exact all_snoc hall'.out ((numB_iff x).2 ⟨h1, h2⟩)⟩
        case measure => simp [intOf]; omega
      · have hbad : numB x = false := by rw [Bool.eq_false_iff]; intro hh; exact hok ((numB_iff x).1 hh)
        have hb2 : rowB r = false := by unfold rowB; rw [not_all hx'.out hbad]; rfl
        have hb3 := Lib.hid hb2
        clear hb2 hbad
        rcases (show x < -10000 ∨ (-10000 ≤ x ∧ 10000 < x) by omega) with h1 | ⟨h1, h2⟩
        all_goals
          clear hok
          go_wp2
          all_goals first | (go_ret; exact ⟨ret_bool hb3.out.symm, rfl⟩) | (rename_i hno; simp at hno; omega)
    · have htk : r.take k = r := List.take_of_length_le (by rw [hln.out]; omega)
      have hob : rowB r = decide (1 ≤ n ∧ n ≤ 20) := by unfold rowB; rw [← htk, hall'.out, htk, hln.out]; rfl
      have hob' := Lib.hid hob
      clear htk hob
      rcases (show n < 1 ∨ (1 ≤ n ∧ n ≤ 20) ∨ (1 ≤ n ∧ 20 < n) by omega) with h1 | ⟨h1, h2⟩ | ⟨h1, h2⟩
      all_goals
        go_wp2
        go_ret
        exact ⟨ret_bool (by rw [hob'.out]; first | (simp; done) | (rw [Bool.eq_iff_iff]; simp; omega)), rfl⟩

theorem l6In_any (x a b : Int) (r : Bool) (hr : decide (a ≤ x ∧ x ≤ b) = r) (w : World) : Calls Try.prog 50 #[.int .i64 x, .int .i64 a, .int .i64 b] w fun e w' => e = .returned (.bool r) ∧ w = w' := by
  rcases (show x < a ∨ (a ≤ x ∧ b < x) ∨ (a ≤ x ∧ x ≤ b) by omega) with h | ⟨h, h2⟩ | ⟨h, h2⟩
  · rw [decide_eq_false (by omega)] at hr
    subst hr
    go_enter Try.func50, Try.ntmps50
    go_wp2
    go_ret
    exact ⟨rfl, rfl⟩
  · rw [decide_eq_false (by omega)] at hr
    subst hr
    go_enter Try.func50, Try.ntmps50
    go_wp2
    go_ret
    exact ⟨ret_bool (by simp; omega), rfl⟩
  · rw [decide_eq_true (by omega)] at hr
    subst hr
    go_enter Try.func50, Try.ntmps50
    go_wp2
    go_ret
    exact ⟨rfl, rfl⟩

set_option maxHeartbeats 400000 in
theorem l13Row_any (A : Option Addr) (n c : Nat) (r : List Int) (w : World) (h : Arr II 1 w w.heap.size A n r) (hn : n ≤ 1099511627776) :
    Calls Try.prog 66 #[.slice A n c] w fun e w' => e = .returned (.bool (rowB r)) ∧ w = w' := by
  have hln := Lib.hid h.1
  go_enter Try.func66, Try.ntmps66
  go_wp2
  go_loop [3] (fun i => ∃ k : Nat, k ≤ n ∧ i = .int .i64 k ∧ (r.take k).all numB = true) (fun i => n - (intOf i).toNat)
  case atStart => exact ⟨0, Nat.zero_le _, rfl, rfl⟩
  case round =>
    obtain ⟨k, hk, rfl, hall⟩ := hrel
    have hall' := Lib.hid hall
    clear hall
    by_cases hlt : k < n
    · obtain ⟨b, off, x, rfl, hbB, hx, c1⟩ := h.int hlt
      have hx' := Lib.hid hx
      clear hx
      cases hok : decide (-10000 ≤ x ∧ x ≤ 10000) with
      | true =>
        have I := Lib.hid (l6In_any x (-10000) 10000 _ hok w)
        have h1 := Lib.hid (of_decide_eq_true hok)
        clear hok
        go_wp2_with fail
        refine I.out.mono ?_
        rintro e w' ⟨rfl, rfl⟩
        go_wp2
        go_round
        case rel => exact ⟨k + 1, by omega, by go_num, by rw [take_snoc hx'.out]; exact all_snoc hall'.out ((numB_iff x).2 h1.out)⟩
        case measure => simp [intOf]; omega
      | false =>
        have I := Lib.hid (l6In_any x (-10000) 10000 _ hok w)
        have hbad : numB x = false := hok
        have hb2 : rowB r = false := by unfold rowB; rw [not_all hx'.out hbad]; rfl
        have hb3 := Lib.hid hb2
        clear hb2 hbad hok
        go_wp2_with fail
        refine I.out.mono ?_
        rintro e w' ⟨rfl, rfl⟩
        go_wp2
        go_ret
        exact ⟨ret_bool hb3.out.symm, rfl⟩
    · have htk : r.take k = r := List.take_of_length_le (by rw [hln.out]; omega)
      have hob : rowB r = decide ((1 : Int) ≤ n ∧ (n : Int) ≤ 20) := by
        unfold rowB; rw [← htk, hall'.out, htk, hln.out, Bool.true_and]
        exact decide_eq_decide.2 (by omega)
      have hob' := Lib.hid hob
      have I := Lib.hid (l6In_any n 1 20 _ rfl w)
      clear htk hob
      go_wp2_with fail
      refine I.out.mono ?_
      rintro e w' ⟨rfl, rfl⟩
      go_wp2
      go_ret
      exact ⟨ret_bool (by rw [hob'.out, Bool.decide_and]), rfl⟩

def okRow (R : List (List Int)) (r : List Int) : Bool := rowB r && decide (r.length = wid R)
theorem stackB_def (R : List (List Int)) : stackB R = (R.all (okRow R) && decide (1 ≤ R.length ∧ R.length ≤ 6)) := rfl

set_option maxHeartbeats 400000 in
theorem implStackValid_any (A : Option Addr) (n c : Nat) (R : List (List Int)) (w : World) (h : Rows2 w w.heap.size A n R) (hn : n ≤ 1099511627776) (hrl : ∀ r ∈ R, r.length ≤ 1099511627776) :
    Calls Try.prog 30 #[.slice A n c] w fun e w' => e = .returned (.bool (stackB R)) ∧ w = w' := by
  have hln := Lib.hid h.len
  have hrl' := Lib.hid hrl
  clear hrl
  go_enter Try.func30, Try.ntmps30
  go_wp2
  go_loop [7] (fun i => ∃ k : Nat, k ≤ n ∧ i = .int .i64 k ∧ (R.take k).all (okRow R) = true) (fun i => n - (intOf i).toNat)
  case atStart => exact ⟨0, Nat.zero_le _, rfl, rfl⟩
  case round =>
    obtain ⟨k, hk, rfl, hall⟩ := hrel
    have hall' := Lib.hid hall
    clear hall
    by_cases hlt : k < n
    · obtain ⟨b, off, r, A', c', rfl, hbB, hx, c1, hc1, ha⟩ := h.row hlt
      obtain ⟨b', off', r0, A0, c0, e, _, hx0, d1, hd1, ha0⟩ := h.row (k := 0) (by omega)
      injection e with e; injection e with e1 e2; subst e1; subst e2
      rw [Nat.add_zero] at d1
      have hw0 := Lib.hid (wid_of hx0)
      have hx' := Lib.hid hx
      have I := isRow_any A' r.length c' r w ha (hrl'.out r (List.mem_of_getElem? hx))
      have hn0 : 0 < n := by omega
      clear hx hx0
      cases hr : rowB r with
      | false =>
        rw [hr] at I
        have I' := Lib.hid I
        have hb2 : stackB R = false := by rw [stackB_def, not_all hx'.out (by unfold okRow; rw [hr]; rfl)]; rfl
        have hb3 := Lib.hid hb2
        clear I hb2 hr
        go_wp2_with fail
        refine I'.out.mono ?_
        rintro e w' ⟨rfl, rfl⟩
        go_wp2
        go_ret
        exact ⟨ret_bool hb3.out.symm, rfl⟩
      | true =>
        rw [hr] at I
        have I' := Lib.hid I
        have hr20 := ((rowB_iff r).1 hr).2.2
        by_cases hwd : r.length = r0.length
        · have hok : okRow R r = true := by unfold okRow; rw [hr, hw0.out, decide_eq_true hwd]; rfl
          have hok' := Lib.hid hok
          have hwd2 : (r.length : Int) = r0.length := by omega
          have g0 : ((r.length : Int) != (r0.length : Int)) = false := by simp; omega
          clear I hr hok hwd hwd2
          go_wp2_with fail
          refine I'.out.mono ?_
          rintro e w' ⟨rfl, rfl⟩
          go_wp2
          go_round
          case rel => exact ⟨k + 1, by omega, by go_num, by rw [take_snoc hx'.out]; exact all_snoc hall'.out hok'.out⟩
          case measure => simp [intOf]; omega
        · have hb2 : stackB R = false := by rw [stackB_def, not_all hx'.out (by unfold okRow; rw [hr, hw0.out, decide_eq_false hwd]; rfl)]; rfl
          have hb3 := Lib.hid hb2
          have g0 : ((r.length : Int) != (r0.length : Int)) = true := by simp; omega
          clear I hr hb2 hwd
          go_wp2_with fail
          refine I'.out.mono ?_
          rintro e w' ⟨rfl, rfl⟩
          go_wp2
          go_ret
          exact ⟨ret_bool hb3.out.symm, rfl⟩
    · have htk : R.take k = R := List.take_of_length_le (by rw [hln.out]; omega)
      have hob : stackB R = decide (1 ≤ n ∧ n ≤ 6) := by have h1 := hall'.out; rw [htk] at h1; rw [stackB_def, h1, hln.out]; rfl
      have hob' := Lib.hid hob
      clear htk hob
      rcases (show n < 1 ∨ (1 ≤ n ∧ n ≤ 6) ∨ (1 ≤ n ∧ 6 < n) by omega) with h1 | ⟨h1, h2⟩ | ⟨h1, h2⟩
      all_goals
        go_wp2
        go_ret
        exact ⟨ret_bool (by rw [hob'.out]; first | (simp; done) | (rw [Bool.eq_iff_iff]; simp; omega)), rfl⟩

set_option maxHeartbeats 1000000 in
theorem specStackValid_any (A : Option Addr) (n c : Nat) (R : List (List Int)) (w : World) (h : Rows2 w w.heap.size A n R) (hn : n ≤ 1099511627776) (hrl : ∀ r ∈ R, r.length ≤ 1099511627776) :
    Calls Try.prog 49 #[.slice A n c] w fun e w' => e = .returned (.bool (stackB R)) ∧ Below w.heap.size w w' := by
  have hln := Lib.hid h.len
  have hrl' := Lib.hid hrl
  clear hrl
  go_enter Try.func49, Try.ntmps49
  go_wp2
  go_loopw [3] (fun i wr => ∃ k : Nat, k ≤ n ∧ i = .int .i64 k ∧ (R.take k).all (okRow R) = true ∧ Below w.heap.size w wr) (fun i _ => n - (intOf i).toNat)
  case atStart => exact ⟨0, Nat.zero_le _, rfl, rfl, Below.refl _ _⟩
  case round =>
    obtain ⟨k, hk, rfl, hall, hb⟩ := hrel
    have hall' := Lib.hid hall
    clear hall
    by_cases hlt : k < n
    · obtain ⟨b, off, r, A', c', rfl, hbB, hx, c1, hc1, ha⟩ := h.row hlt
      obtain ⟨b', off', r0, A0, c0, e, _, hx0, d1, hd1, ha0⟩ := h.row (k := 0) (by omega)
      injection e with e; injection e with e1 e2; subst e1; subst e2
      rw [Nat.add_zero] at d1
      have hw0 := Lib.hid (wid_of hx0)
      have hx' := Lib.hid hx
      have hrr := hrl'.out r (List.mem_of_getElem? hx)
      have c1' := (hb.cell (by exact hbB)).trans c1
      have d1' := (hb.cell (by exact hbB)).trans d1
      have D1 := Later.cell (w0 := wr) (B := w.heap.size) (by exact hbB) c1'
      have D0 := Later.cell (w0 := wr) (B := w.heap.size) (by exact hbB) d1'
      have hn0 : (0 : Int) < (n : Int) := by omega
      have ik : (k : Int) < (n : Int) := by omega
      have IU : ∀ u : Later w.heap.size wr, Arr II 1 u.1 u.1.heap.size A' r.length r := fun u => (ha.below' (hb.trans u.2)).more (Nat.le_trans hb.size u.2.size)
      have IU' := Lib.hid IU
      clear hx hx0 c1 d1 c1' d1' IU
      cases hr : rowB r with
      | false =>
        have hb2 : stackB R = false := by rw [stackB_def, not_all hx'.out (by unfold okRow; rw [hr]; rfl)]; rfl
        have hb3 := Lib.hid hb2
        have HR := Lib.hid hr
        clear hb2 hr
        go_wp2_with fail
        refine wp_region_under (B := w.heap.size) (w0 := wr) (by kernel_rfl) (by kernel_rfl) (Below.refl _ _) ?_
        repeat (go_big_quiet_step ((go_at_call 66; refine Calls.underSame (HR.out ▸ l13Row_any A' r.length c' r _ (IU'.out _) hrr))))
        refine wpQuiet_nil ?_
        rintro w2 ⟨u, hu⟩
        have hb2 := u.2
        rw [← hu] at hb2
        clear hu D1 D0
        go_wp2
        go_ret
        exact ⟨ret_bool hb3.out.symm, hb.trans hb2⟩
      | true =>
        have hr20 := ((rowB_iff r).1 hr).2.2
        have HR := Lib.hid hr
        by_cases hwd : r.length = r0.length
        · have hok : okRow R r = true := by unfold okRow; rw [hr, hw0.out, decide_eq_true hwd]; rfl
          have hok' := Lib.hid hok
          have g0 : ((r.length : Int) != (r0.length : Int)) = false := by simp; omega
          clear hr hok hwd
          go_wp2_with fail
          refine wp_region_under (B := w.heap.size) (w0 := wr) (by kernel_rfl) (by kernel_rfl) (Below.refl _ _) ?_
          repeat (go_big_quiet_step ((go_at_call 66; refine Calls.underSame (HR.out ▸ l13Row_any A' r.length c' r _ (IU'.out _) hrr))))
          refine wpQuiet_nil ?_
          rintro w2 ⟨u, hu⟩
          have hb2 := u.2
          rw [← hu] at hb2
          clear hu D1 D0
          go_wp2
          go_roundw
          case rel => exact ⟨k + 1, by omega, by go_num, by rw [take_snoc hx'.out]; exact all_snoc hall'.out hok'.out, hb.trans hb2⟩
          case measure => simp [intOf]; omega
        · have hb2 : stackB R = false := by rw [stackB_def, not_all hx'.out (by unfold okRow; rw [hr, hw0.out, decide_eq_false hwd]; rfl)]; rfl
          have hb3 := Lib.hid hb2
          have g0 : ((r.length : Int) != (r0.length : Int)) = true := by simp; omega
          clear hr hb2 hwd
          go_wp2_with fail
          refine wp_region_under (B := w.heap.size) (w0 := wr) (by kernel_rfl) (by kernel_rfl) (Below.refl _ _) ?_
          repeat (go_big_quiet_step ((go_at_call 66; refine Calls.underSame (HR.out ▸ l13Row_any A' r.length c' r _ (IU'.out _) hrr))))
          refine wpQuiet_nil ?_
          rintro w2 ⟨u, hu⟩
          have hb2 := u.2
          rw [← hu] at hb2
          clear hu D1 D0
          go_wp2
          go_ret
          exact ⟨ret_bool hb3.out.symm, hb.trans hb2⟩
    · have htk : R.take k = R := List.take_of_length_le (by rw [hln.out]; omega)
      have hob : stackB R = decide ((1 : Int) ≤ n ∧ (n : Int) ≤ 6) := by
        have h1 := hall'.out
        rw [htk] at h1
        rw [stackB_def, h1, hln.out, Bool.true_and]
        exact decide_eq_decide.2 (by omega)
      have hob' := Lib.hid hob
      have I := Lib.hid (fun w => l6In_any n 1 6 _ rfl w)
      clear htk hob
      go_wp2_with fail
      refine (I.out _).mono ?_
      rintro e w' ⟨rfl, rfl⟩
      go_wp2
      go_ret
      exact ⟨ret_bool (by rw [hob'.out, Bool.decide_and]), hb⟩
end Go.Proofs.Ytfohfcpnhhiemaa
