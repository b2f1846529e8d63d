/-
  Contract: sameInts.
-/
import Derived.Test.YtfohfcpnhhiemaaKit
namespace Go.Proofs.Ytfohfcpnhhiemaa
open Go.RowKit
set_option linter.unusedSimpArgs false
set_option linter.unusedVariables false

theorem int_bne_self (x : Int) : (x != x) = false := by simp

set_option maxHeartbeats 400000 in
theorem sameInts_any (A : Option Addr) (n c : Nat) (l : List Int) (A' : Option Addr) (n' c' : Nat) (l' : List Int) (w : World) (h : Arr II 1 w w.heap.size A n l) (h' : Arr II 1 w w.heap.size A' n' l') (hn : n ≤ 1099511627776) (hn' : n' ≤ 1099511627776) :
    Calls Try.prog 19 #[.slice A n c, .slice A' n' c'] w fun e w' => e = .returned (.bool (decide (l = l'))) ∧ Below w.heap.size w w' := by
  by_cases hne : n = n'
  · subst hne
    have hl1 := Lib.hid h.1
    have hl2 := Lib.hid h'.1
    go_enter Try.func19, Try.ntmps19
    go_wp2
    go_loopw [5] (fun i wr => ∃ k : Nat, k ≤ n ∧ i = .int .i64 k ∧ l.take k = l'.take k ∧ Below w.heap.size w wr) (fun i _ => n - (intOf i).toNat)
    case atStart => exact ⟨0, Nat.zero_le _, rfl, rfl, Below.refl _ _⟩
    case round =>
      obtain ⟨k, hk, rfl, heq, hb⟩ := hrel
      have heq' := Lib.hid heq
      clear heq
      by_cases hlt : k < n
      · obtain ⟨b, off, x, rfl, hbB, hx, c1⟩ := h.int hlt
        obtain ⟨b', off', y, rfl, hbB', hy, c1'⟩ := h'.int hlt
        have hx' := Lib.hid hx; clear hx
        have hy' := Lib.hid hy; clear hy
        have d1 := (hb.cell (by exact hbB)).trans c1
        have d1' := (hb.cell (by exact hbB')).trans c1'
        have ik : (k : Int) < (n : Int) := by omega
        have ik0 : (0 : Int) ≤ (k : Int) := by omega
        clear c1 c1'
        by_cases he : x = y
        · subst he
          have d0 : (x != x) = false := int_bne_self x
          go_wp2_with fail
          go_quiet (fail)
          have hb2 := below_drewN hb nq
          clear d0
          go_wp2
          go_roundw
          case rel => exact ⟨k + 1, by omega, by go_num, by rw [List.take_add_one, List.take_add_one, heq'.out, hx'.out, hy'.out], hb2⟩
          case measure => simp [intOf]; omega
        · have hE : ¬ l = l' := by
            rintro rfl
            have := hx'.out.symm.trans hy'.out
            simp only [Option.some.injEq] at this
            exact he this
          have hE' := Lib.hid hE
          have d0 : (x != y) = true := by simp [he]
          clear hE he
          go_wp2_with fail
          go_quiet (fail)
          have hb2 := below_drewN hb nq
          clear d0
          go_wp2
          go_ret
          exact ⟨ret_bool (by simp only [hE'.out, decide_false]), hb2⟩
      · obtain rfl : k = n := by omega
        have hE : l = l' := by rw [← List.take_of_length_le (show l.length ≤ k by rw [hl1.out]; exact Nat.le_refl _), heq'.out, List.take_of_length_le (by rw [hl2.out]; exact Nat.le_refl _)]
        have hE' := Lib.hid hE
        clear hE
        go_wp2
        go_ret
        exact ⟨ret_bool (by rw [hE'.out]; simp), hb⟩
  · have hl : ¬ l = l' := fun e => hne (by rw [← h.1, ← h'.1, e])
    have hl' := Lib.hid hl
    clear hl
    go_enter Try.func19, Try.ntmps19
    go_wp2
    go_ret
    exact ⟨ret_bool (by simp [hl'.out]), Below.refl _ _⟩
/-- Two rows that read alike are the same, at any later world. -/
theorem sameInts_later {A A' : Option Addr} {n c n' c' : Nat} {xs : List Int} {w : World} (h : Arr II 1 w w.heap.size A n xs) (h' : Arr II 1 w w.heap.size A' n' xs) (hn : xs.length ≤ 1099511627776 := by first | omega | simp) :
    ∀ W, Below w.heap.size w W → Calls Try.prog 19 #[.slice A n c, .slice A' n' c'] W fun e w' => e = .returned (.bool true) ∧ Below w.heap.size w w' := by
  intro W hW
  have S := sameInts_any A n c xs A' n' c' xs W ((h.below' hW).more hW.size) ((h'.below' hW).more hW.size) (by rw [← h.1]; exact hn) (by rw [← h'.1]; exact hn)
  rw [decide_eq_true rfl] at S
  exact S.mono fun e w' ⟨he, hb⟩ => ⟨he, hW.trans (hb.mono hW.size)⟩
end Go.Proofs.Ytfohfcpnhhiemaa
