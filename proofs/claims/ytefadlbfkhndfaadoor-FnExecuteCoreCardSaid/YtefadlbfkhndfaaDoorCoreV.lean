/-
  Contracts: CoreValid (program and reference), CoreLength (program).
-/
import Derived.Test.YtefadlbfkhndfaaDoorPlainC
import Derived.Test.YtefadlbfkhndfaaDoorUnder
namespace Go.Proofs.YtefadlbfkhndfaaDoor
open Go.RowKit
set_option linter.unusedSimpArgs false
set_option linter.unusedVariables false

set_option maxHeartbeats 400000 in
theorem implCoreValid_any (A : Option Addr) (n c : Nat) (l : List Pc) (w : World) (h : Arr PP 2 w w.heap.size A n l) (hn : n ≤ 1099511627776) :
    Calls Tryd.prog 30 #[.slice A n c] w fun e w' => e = .returned (.bool (coreB l)) ∧ Below w.heap.size w w' := by
  have hln := Lib.hid h.1
  go_enter Tryd.func30, Tryd.ntmps30
  go_wp2
  go_loopw [3, 8] (fun s i wr => ∃ (k : Nat) (d : Int), k ≤ n ∧ i = .int .i64 k ∧ s = .int .i64 d ∧ coreFrom d (l.drop k) = coreFrom 0 l ∧ Below w.heap.size w wr) (fun _ i _ => n - (intOf i).toNat)
  case atStart => exact ⟨0, 0, Nat.zero_le _, rfl, rfl, rfl, Below.refl _ _⟩
  case round =>
    obtain ⟨k, d, hk, rfl, rfl, hs, hb⟩ := hrel
    have hs' := Lib.hid hs
    clear hs
    by_cases hlt : k < n
    · obtain ⟨b, off, x, y, rfl, hbB, hx, c1, c2⟩ := h.pair hlt
      have hE := Lib.hid (drop_cons hx); clear hx
      have c1' := (hb.cell (by exact hbB)).trans c1
      have c2' := (hb.cell (by exact hbB)).trans c2
      clear c1 c2
      by_cases hok : d ≤ x ∧ x < y ∧ y ≤ 30000
      · obtain ⟨h1, h2, h3⟩ := hok
        go_wp2
        go_roundw
        case rel =>
          refine ⟨k + 1, y, by omega, by go_num, rfl, ?_, hb.alloc (by have := hb.size; omega) _⟩
          rw [← hs'.out, hE.out, coreFrom, decide_eq_true (show d ≤ (x, y).1 ∧ (x, y).1 < (x, y).2 ∧ (x, y).2 ≤ 30000 from ⟨h1, h2, h3⟩), Bool.true_and]
        case measure => simp [intOf]; omega
      · have hf : coreB l = false := by
          unfold coreB
          rw [← hs'.out, hE.out, coreFrom, decide_eq_false (show ¬ (d ≤ (x, y).1 ∧ (x, y).1 < (x, y).2 ∧ (x, y).2 ≤ 30000) from hok)]
          rfl
        have hf' := Lib.hid hf
        clear hf
        rcases (show x < d ∨ (d ≤ x ∧ y ≤ x) ∨ (d ≤ x ∧ x < y ∧ 30000 < y) by omega) with h1 | ⟨h1, h2⟩ | ⟨h1, h2, h3⟩
        all_goals
          clear hok
          go_wp2
          all_goals first | (go_ret; exact ⟨ret_bool hf'.out.symm, hb.alloc (by have := hb.size; omega) _⟩) | (rename_i hno; simp at hno; omega)
    · have hE := drop_end (l := l) (k := k) (by rw [hln.out]; omega)
      have hg : coreB l = decide (n ≤ 20) := by
        unfold coreB
        rw [← hs'.out, hE, hln.out]
        rfl
      have hg' := Lib.hid hg
      clear hE hg
      by_cases h20 : n ≤ 20
      all_goals
        go_wp2
        go_ret
        exact ⟨ret_bool (by rw [hg'.out]; simp; try omega), hb⟩

def pieceB (x y : Int) : Bool := decide (0 ≤ x ∧ x ≤ 30000 ∧ 0 ≤ y ∧ y ≤ 30000 ∧ x < y)
theorem l3Piece_any (x y : Int) (w : World) (b : Bool) (hb : pieceB x y = b) :
    Calls Tryd.prog 45 #[.agg #[.int .i64 x, .int .i64 y]] w fun e w' => e = .returned (.bool b) ∧ Below w.heap.size w w' := by
  have hb' := Lib.hid hb
  clear hb
  have fin : ∀ b' : Bool, pieceB x y = b' → b = b' := fun b' e => hb'.out.symm.trans e
  rcases (show x < 0 ∨ (0 ≤ x ∧ 30000 < x) ∨ (0 ≤ x ∧ x ≤ 30000 ∧ y < 0) ∨ (0 ≤ x ∧ x ≤ 30000 ∧ 0 ≤ y ∧ 30000 < y) ∨ (0 ≤ x ∧ x ≤ 30000 ∧ 0 ≤ y ∧ y ≤ 30000 ∧ y ≤ x) ∨ (0 ≤ x ∧ x ≤ 30000 ∧ 0 ≤ y ∧ y ≤ 30000 ∧ x < y) by omega) with h1 | ⟨h1, h2⟩ | ⟨h1, h2, h3⟩ | ⟨h1, h2, h3, h4⟩ | ⟨h1, h2, h3, h4, h5⟩ | ⟨h1, h2, h3, h4, h5⟩
  · have e := fin false (by unfold pieceB; rw [decide_eq_false]; omega)
    subst e
    clear fin
    go_enter Tryd.func45, Tryd.ntmps45
    go_wp2
    go_ret
    exact ⟨rfl, by go_grown⟩
  · have e := fin false (by unfold pieceB; rw [decide_eq_false]; omega)
    subst e
    clear fin
    go_enter Tryd.func45, Tryd.ntmps45
    go_wp2
    go_ret
    exact ⟨rfl, by go_grown⟩
  · have e := fin false (by unfold pieceB; rw [decide_eq_false]; omega)
    subst e
    clear fin
    go_enter Tryd.func45, Tryd.ntmps45
    go_wp2
    go_ret
    exact ⟨rfl, by go_grown⟩
  · have e := fin false (by unfold pieceB; rw [decide_eq_false]; omega)
    subst e
    clear fin
    go_enter Tryd.func45, Tryd.ntmps45
    go_wp2
    go_ret
    exact ⟨rfl, by go_grown⟩
  · have e := fin false (by unfold pieceB; rw [decide_eq_false]; omega)
    subst e
    clear fin
    go_enter Tryd.func45, Tryd.ntmps45
    go_wp2
    go_ret
    exact ⟨ret_bool (decide_eq_false (by omega)), by go_grown⟩
  · have e := fin true (by unfold pieceB; rw [decide_eq_true]; omega)
    subst e
    clear fin
    go_enter Tryd.func45, Tryd.ntmps45
    go_wp2
    go_ret
    exact ⟨rfl, by go_grown⟩

set_option maxHeartbeats 1000000 in
theorem specCoreValid_any (A : Option Addr) (n c : Nat) (l : List Pc) (w : World) (h : Arr PP 2 w w.heap.size A n l) (hn : n ≤ 1099511627776) :
    Calls Tryd.prog 31 #[.slice A n c] w fun e w' => e = .returned (.bool (coreB l)) ∧ Below w.heap.size w w' := by
  have hln := Lib.hid h.1
  go_enter Tryd.func31, Tryd.ntmps31
  go_wp2
  go_loopw [3] (fun i wr => ∃ (k : Nat) (d : Int), k ≤ n ∧ i = .int .i64 k ∧ 0 ≤ d ∧ (k = 0 → d = 0) ∧ (∀ j q, k = j + 1 → l[j]? = some q → d = q.2) ∧ coreFrom d (l.drop k) = coreFrom 0 l ∧ Below w.heap.size w wr) (fun i _ => n - (intOf i).toNat)
  case atStart => exact ⟨0, 0, Nat.zero_le _, rfl, Int.le_refl _, fun _ => rfl, fun j q e => by omega, rfl, Below.refl _ _⟩
  case round =>
    obtain ⟨k, d, hk, rfl, hd0, hdz, hdp, hs, hb⟩ := hrel
    have hs' := Lib.hid hs
    have hdp' := Lib.hid hdp
    have hdz' := Lib.hid hdz
    clear hs hdp hdz
    by_cases hlt : k < n
    · obtain ⟨b, off, x, y, rfl, hbB, hx, c1, c2⟩ := h.pair hlt
      have hE := Lib.hid (drop_cons hx)
      have hx' := Lib.hid hx
      clear hx
      have c1' := (hb.cell (by exact hbB)).trans c1
      have c2' := (hb.cell (by exact hbB)).trans c2
      have bad : ¬ (d ≤ x ∧ x < y ∧ y ≤ 30000) → coreB l = false := fun hok => by
        unfold coreB
        rw [← hs'.out, hE.out, coreFrom, decide_eq_false (show ¬ (d ≤ (x, y).1 ∧ (x, y).1 < (x, y).2 ∧ (x, y).2 ≤ 30000) from hok)]
        rfl
      have good : (d ≤ x ∧ x < y ∧ y ≤ 30000) → coreFrom y (l.drop (k + 1)) = coreFrom 0 l := fun hok => by
        rw [← hs'.out, hE.out, coreFrom, decide_eq_true (show d ≤ (x, y).1 ∧ (x, y).1 < (x, y).2 ∧ (x, y).2 ≤ 30000 from hok), Bool.true_and]
      have ik : (k : Int) < (n : Int) := by omega
      have bad' := Lib.hid bad
      have good' := Lib.hid good
      clear bad good
      cases hp : pieceB x y with
      | false =>
        have hf : coreB l = false := bad'.out (fun hok => by unfold pieceB at hp; rw [decide_eq_true (by omega)] at hp; cases hp)
        have hf' := Lib.hid hf
        clear hf
        have D1 := Later.cell (w0 := wr) (B := w.heap.size) (by exact hbB) c1'
        have D2 := Later.cell (w0 := wr) (B := w.heap.size) (by exact hbB) c2'
        go_wp2_with fail
        refine wp_region_under (B := w.heap.size) (w0 := wr) (by kernel_rfl) (by kernel_rfl) (Below.refl _ _) ?_
        repeat (go_big_quiet_step ((go_at_call 45; exact Calls.under hb.size (l3Piece_any _ _ _ _ hp))))
        refine wpQuiet_nil ?_
        rintro w2 ⟨u, hu⟩
        have hb2 := u.2
        rw [← hu] at hb2
        clear hu D1 D2
        go_wp2
        go_ret
        exact ⟨ret_bool hf'.out.symm, hb.trans hb2⟩
      | true =>
        have hq : 0 ≤ x ∧ x ≤ 30000 ∧ 0 ≤ y ∧ y ≤ 30000 ∧ x < y := by unfold pieceB at hp; exact of_decide_eq_true hp
        have D1 := Later.cell (w0 := wr) (B := w.heap.size) (by exact hbB) c1'
        have D2 := Later.cell (w0 := wr) (B := w.heap.size) (by exact hbB) c2'
        rcases k with _ | j
        · have hd := hdz'.out rfl
          subst hd
          simp only [Nat.zero_mul, Nat.add_zero] at D1 D2
          go_wp2_with fail
          refine wp_region_under (B := w.heap.size) (w0 := wr) (by kernel_rfl) (by kernel_rfl) (Below.refl _ _) ?_
          repeat (go_big_quiet_step ((go_at_call 45; exact Calls.under hb.size (l3Piece_any _ _ _ _ hp))))
          refine wpQuiet_nil ?_
          rintro w2 ⟨u, hu⟩
          have hb2 := u.2
          rw [← hu] at hb2
          clear hu D1 D2
          go_wp2
          go_roundw
          case rel =>
            refine ⟨1, y, by omega, by go_num, by omega, fun e => absurd e (by omega), fun j q e hj => ?_, good'.out (by omega), hb.trans hb2⟩
            obtain rfl : j = 0 := by omega
            rw [hx'.out] at hj
            cases hj
            rfl
          case measure => simp [intOf]; omega
        · obtain ⟨b', off', x', y', e, _, hx1, c3, c4⟩ := h.pair (k := j) (by omega)
          injection e with e; injection e with e1 e2; subst e1; subst e2
          have hd := hdp'.out j _ rfl hx1
          obtain rfl : d = y' := hd
          have c4' := (hb.cell (by exact hbB)).trans c4
          have D4 := Later.cell (w0 := wr) (B := w.heap.size) (by exact hbB) c4'
          clear c3 c4 hx1
          have ik' : (j : Int) + 1 < (n : Int) := by omega
          have ij : (j : Int) < (n : Int) := by omega
          have Bj : 0 ≤ (j : Int) ∧ (j : Int) ≤ 4611686018427387904 := by omega
          have wj : wrap64 (j : Int) = (j : Int) := w64 Bj
          clear Bj
          by_cases hlo : x < d
          · have hf : coreB l = false := bad'.out (by omega)
            have hf' := Lib.hid hf
            clear hf
            go_wp2_with fail
            refine wp_region_under (B := w.heap.size) (w0 := wr) (by kernel_rfl) (by kernel_rfl) (Below.refl _ _) ?_
            repeat (go_big_quiet_step ((go_at_call 45; exact Calls.under hb.size (l3Piece_any _ _ _ _ hp))))
            refine wpQuiet_nil ?_
            rintro w2 ⟨u, hu⟩
            have hb2 := u.2
            rw [← hu] at hb2
            clear hu D1 D2 D4 wj
            go_wp2
            go_ret
            exact ⟨ret_bool hf'.out.symm, hb.trans hb2⟩
          · go_wp2_with fail
            refine wp_region_under (B := w.heap.size) (w0 := wr) (by kernel_rfl) (by kernel_rfl) (Below.refl _ _) ?_
            repeat (go_big_quiet_step ((go_at_call 45; exact Calls.under hb.size (l3Piece_any _ _ _ _ hp))))
            refine wpQuiet_nil ?_
            rintro w2 ⟨u, hu⟩
            have hb2 := u.2
            rw [← hu] at hb2
            clear hu D1 D2 D4 wj
            go_wp2
            go_roundw
            case rel =>
              refine ⟨j + 1 + 1, y, by omega, by go_num, by omega, fun e => absurd e (by omega), fun i q e hi => ?_, good'.out (by omega), hb.trans hb2⟩
              obtain rfl : i = j + 1 := by omega
              rw [hx'.out] at hi
              cases hi
              rfl
            case measure => simp [intOf]; omega
    · have hE := drop_end (l := l) (k := k) (by rw [hln.out]; omega)
      have hg : coreB l = decide (n ≤ 20) := by
        unfold coreB
        rw [← hs'.out, hE, hln.out]
        rfl
      have hg' := Lib.hid hg
      clear hE hg
      by_cases h20 : n ≤ 20
      all_goals
        go_wp2
        go_ret
        exact ⟨ret_bool (by rw [hg'.out]; simp; try omega), hb⟩
end Go.Proofs.YtefadlbfkhndfaaDoor
