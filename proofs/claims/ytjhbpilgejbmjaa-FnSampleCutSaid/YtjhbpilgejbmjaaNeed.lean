/-
  Contracts: the program's and the reference's SampleNeed.
-/
import Derived.Test.YtjhbpilgejbmjaaPlainS
namespace Go.Proofs.Ytjhbpilgejbmjaa
open Go.RowKit
set_option linter.unusedSimpArgs false
set_option linter.unusedVariables false

set_option maxHeartbeats 400000 in
theorem implNeed_any (A : Option Addr) (n c : Nat) (l : List (Int × Int)) (w : World) (h : Arr PP 2 w w.heap.size A n l) (hn : n ≤ 1099511627776) :
    Calls Try.prog 18 #[.slice A n c] w fun e w' => e = .returned (.int .i64 (need l)) ∧ Below w.heap.size w w' := by
  have hln := Lib.hid h.1
  go_enter Try.func18, Try.ntmps18
  go_wp2
  go_loopw [3, 8] (fun s i wr => ∃ k : Nat, k ≤ n ∧ i = .int .i64 k ∧ (l.take k).all okOrder = true ∧ s = .int .i64 (needOf (l.take k)) ∧ Below w.heap.size w wr) (fun _ i _ => n - (intOf i).toNat)
  case atStart => exact ⟨0, Nat.zero_le _, rfl, rfl, rfl, Below.refl _ _⟩
  case round =>
    obtain ⟨k, hk, rfl, hall, rfl, hb⟩ := hrel
    have hall' := Lib.hid hall
    have hbd := needOf_bd hall
    have hlen : (l.take k).length ≤ k := List.length_take_le _ _
    clear hall
    by_cases hlt : k < n
    · obtain ⟨b, off, x, y, rfl, hbB, hx, c1, c2⟩ := h.pair hlt
      have hx' := Lib.hid hx; clear hx
      have c1' := (hb.cell (by exact hbB)).trans c1
      have c2' := (hb.cell (by exact hbB)).trans c2
      clear c1 c2
      by_cases hok : 1 ≤ x ∧ x ≤ 1000 ∧ 1 ≤ y ∧ y ≤ 20
      · have hp := prod_bd ((okOrder_iff x y).2 hok)
        obtain ⟨h1, h2, h3, h4⟩ := hok
        go_wp2
        go_roundw
        case rel =>
          refine ⟨k + 1, by omega, by go_num, ?_, ?_, hb.alloc (by have := hb.size; omega) _⟩
          · rw [take_snoc hx'.out]; exact all_snoc hall'.out ((okOrder_iff x y).2 ⟨h1, h2, h3, h4⟩)
          · rw [take_snoc hx'.out, needOf_snoc]
        case measure => simp [intOf]; omega
      · have hbad : okOrder (x, y) = false := by rw [Bool.eq_false_iff]; intro hh; exact hok ((okOrder_iff x y).1 hh)
        have hneed : need l = -1 := need_bad (not_all hx'.out hbad)
        have hneed' := Lib.hid hneed
        clear hneed hbad
        go_wp2
        all_goals first | (exfalso; omega) | (go_ret; exact ⟨ret_int hneed'.out.symm, hb.alloc (by have := hb.size; omega) _⟩)
    · have hkn : k = n := by omega
      have htk : l.take k = l := List.take_of_length_le (by rw [hln.out]; omega)
      have ht := Lib.hid htk
      clear htk
      by_cases h8 : n ≤ 8
      · go_wp2
        go_ret
        refine ⟨ret_int ?_, hb⟩
        rw [need_good (by rw [← ht.out]; exact hall'.out) (by rw [hln.out]; exact h8), ht.out]
      · go_wp2
        go_ret
        refine ⟨ret_int ?_, hb⟩
        rw [need_long (by rw [hln.out]; omega)]

set_option maxHeartbeats 400000 in
theorem l42Orders_any (A : Option Addr) (n c : Nat) (l : List (Int × Int)) (w : World) (h : Arr PP 2 w w.heap.size A n l) (hn : n ≤ 1099511627776) :
    Calls Try.prog 44 #[.slice A n c] w fun e w' => e = .returned (.bool (ordersB l)) ∧ w = w' := by
  have hln := Lib.hid h.1
  go_enter Try.func44, Try.ntmps44
  go_wp2
  go_loop [3] (fun i => ∃ k : Nat, k ≤ n ∧ i = .int .i64 k ∧ (l.take k).all okOrder = true) (fun i => n - (intOf i).toNat)
  case atStart => exact ⟨0, Nat.zero_le _, rfl, rfl⟩
  case round =>
    obtain ⟨k, hk, rfl, hall⟩ := hrel
    have hall' := Lib.hid hall
    clear hall
    by_cases hlt : k < n
    · obtain ⟨b, off, x, y, rfl, hbB, hx, c1, c2⟩ := h.pair hlt
      have hx' := Lib.hid hx; clear hx
      by_cases hok : 1 ≤ x ∧ x ≤ 1000 ∧ 1 ≤ y ∧ y ≤ 20
      · obtain ⟨h1, h2, h3, h4⟩ := hok
        go_wp2
        go_round
        case rel => exact ⟨k + 1, by omega, by go_num, by rw [take_snoc hx'.out]; exact all_snoc hall'.out ((okOrder_iff x y).2 ⟨h1, h2, h3, h4⟩)⟩
        case measure => simp [intOf]; omega
      · have hbad : okOrder (x, y) = false := by rw [Bool.eq_false_iff]; intro hh; exact hok ((okOrder_iff x y).1 hh)
        have hb2 : ordersB l = false := by unfold ordersB; rw [not_all hx'.out hbad]; rfl
        have hb3 := Lib.hid hb2
        clear hb2 hbad
        rcases (show x < 1 ∨ (1 ≤ x ∧ 1000 < x) ∨ (1 ≤ x ∧ x ≤ 1000 ∧ y < 1) ∨ (1 ≤ x ∧ x ≤ 1000 ∧ 1 ≤ y ∧ 20 < y) by omega) with h1 | ⟨h1, h2⟩ | ⟨h1, h2, h3⟩ | ⟨h1, h2, h3, h4⟩
        all_goals
          clear hok
          go_wp2
          all_goals first | (go_ret; exact ⟨ret_bool hb3.out.symm, rfl⟩) | (rename_i hno; simp at hno; omega)
    · have htk : l.take k = l := List.take_of_length_le (by rw [hln.out]; omega)
      have hob : ordersB l = decide (n ≤ 8) := by unfold ordersB; rw [← htk, hall'.out, htk, hln.out]; rfl
      have hob' := Lib.hid hob
      clear htk hob
      by_cases h8 : n ≤ 8
      all_goals
        go_wp2
        go_ret
        exact ⟨ret_bool (by rw [hob'.out]; simp; try omega), rfl⟩

set_option maxHeartbeats 400000 in
theorem specNeed_any (A : Option Addr) (n c : Nat) (l : List (Int × Int)) (w : World) (h : Arr PP 2 w w.heap.size A n l) (hn : n ≤ 1099511627776) :
    Calls Try.prog 52 #[.slice A n c] w fun e w' => e = .returned (.int .i64 (need l)) ∧ Below w.heap.size w w' := by
  have hln := Lib.hid h.1
  have hc := fun b (hb : ordersB l = b) => hb ▸ l42Orders_any A n c l w h hn
  cases hob : ordersB l with
  | false =>
    have hn1 : need l = -1 := by unfold need; rw [if_neg (by rw [hob]; simp)]
    have hn2 := Lib.hid hn1
    have hc1 := Lib.hid (hc _ hob)
    clear hc hob hn1
    go_enter Try.func52, Try.ntmps52
    go_wp2_with fail
    refine hc1.out.mono ?_
    rintro e w' ⟨rfl, rfl⟩
    go_wp2
    go_ret
    exact ⟨ret_int hn2.out.symm, Below.refl _ _⟩
  | true =>
    obtain ⟨hall, h8⟩ := (ordersB_iff l).1 hob
    have hn1 : need l = needOf l := need_good hall h8
    have hn2 := Lib.hid hn1
    have hc1 := Lib.hid (hc _ hob)
    have hall' := Lib.hid hall
    clear hc hob hn1 hall
    go_enter Try.func52, Try.ntmps52
    go_wp2_with fail
    refine hc1.out.mono ?_
    rintro e w' ⟨rfl, rfl⟩
    go_wp2
    go_loopw [3, 4] (fun s i wr => ∃ k : Nat, k ≤ n ∧ i = .int .i64 k ∧ s = .int .i64 (needOf (l.take k)) ∧ Below w.heap.size w wr) (fun _ i _ => n - (intOf i).toNat)
    case atStart => exact ⟨0, Nat.zero_le _, rfl, rfl, Below.refl _ _⟩
    case round =>
      obtain ⟨k, hk, rfl, rfl, hb⟩ := hrel
      have hbd := needOf_bd (l := l.take k) (by rw [List.all_eq_true]; intro x hx; exact List.all_eq_true.1 hall'.out x (List.mem_of_mem_take hx))
      have hlen : (l.take k).length ≤ k := List.length_take_le _ _
      by_cases hlt : k < n
      · obtain ⟨b, off, x, y, rfl, hbB, hx, c1, c2⟩ := h.pair hlt
        have hx' := Lib.hid hx; clear hx
        have c1' := (hb.cell (by exact hbB)).trans c1
        have c2' := (hb.cell (by exact hbB)).trans c2
        have hp := prod_bd (List.all_eq_true.1 hall'.out _ (List.mem_of_getElem? hx'.out))
        have hlt' : (k : Int) < (n : Int) := by omega
        have B1 : 0 ≤ x * y ∧ x * y ≤ 4611686018427387904 := by omega
        have B2 : 0 ≤ needOf (l.take k) + x * y ∧ needOf (l.take k) + x * y ≤ 4611686018427387904 := by omega
        clear c1 c2
        have e1 : wrap64 (x * y) = x * y := w64 B1
        have e2 : wrap64 (needOf (l.take k) + x * y) = needOf (l.take k) + x * y := w64 B2
        clear B1 B2
        go_wp2
        go_quiet (fail)
        clear e1 e2
        go_wp2
        go_roundw
        case rel => exact ⟨k + 1, by omega, by go_num, by rw [take_snoc hx'.out, needOf_snoc], below_drewN hb _⟩
        case measure => simp [intOf]; omega
      · have htk : l.take k = l := List.take_of_length_le (by rw [hln.out]; omega)
        have ht := Lib.hid htk
        clear htk
        go_wp2
        go_ret
        exact ⟨ret_int (by rw [hn2.out, ht.out]), hb⟩
end Go.Proofs.Ytjhbpilgejbmjaa
