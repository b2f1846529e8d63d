/-
  The exact laws' own words on a slice of Frac: its comparison.
-/
import Derived.Test.YtfohfcpnhhiemaaKit
import Derived.StillTailTactics
namespace Go.Proofs.Ytfohfcpnhhiemaa
open Go.RowKit
set_option linter.unusedSimpArgs false
set_option linter.unusedVariables false

theorem infoFrac : (Try.prog.info? 45).map (fun i => (i.zero, i.size, i.bytes)) = some (some (.agg #[.int .i64 0, .int .i64 0]), 2, 16) := by kernel_rfl

theorem eqFrac_any (x y x' y' : Int) (w : World) :
    Calls Try.prog 63 #[.agg #[.int .i64 x, .int .i64 y], .agg #[.int .i64 x', .int .i64 y']] w fun e w' => e = .returned (.bool (decide (x = x' ∧ y = y'))) ∧ Below w.heap.size w w' := by
  by_cases h1 : x = x'
  · by_cases h2 : y = y'
    · subst h1; subst h2
      go_enter Try.func63, Try.ntmps63
      go_wp2
      go_ret
      refine ⟨ret_bool (by simp), ?_⟩
      go_grown
    · subst h1
      go_enter Try.func63, Try.ntmps63
      go_wp2
      go_ret
      refine ⟨ret_bool (by simp [h2]), ?_⟩
      go_grown
  · go_enter Try.func63, Try.ntmps63
    go_wp2
    go_ret
    refine ⟨ret_bool (by simp [h1]), ?_⟩
    go_grown

set_option maxHeartbeats 400000 in
theorem eqFracS_any (A : Option Addr) (n c : Nat) (l : List (Int × Int)) (A' : Option Addr) (n' c' : Nat) (l' : List (Int × Int)) (w : World) (h : Arr PP 2 w w.heap.size A n l) (h' : Arr PP 2 w w.heap.size A' n' l') (hn : n ≤ 1048576) (hn' : n' ≤ 1048576) :
    Calls Try.prog 38 #[.slice A n c, .slice A' n' c'] w fun e w' => e = .returned (.bool (decide (l = l'))) ∧ Below w.heap.size w w' := by
  by_cases hne : n = n'
  · subst hne
    have hl1 := Lib.hid h.1
    have hl2 := Lib.hid h'.1
    go_enter Try.func38, Try.ntmps38
    go_wp2
    go_loopw [5] (fun i wr => ∃ k : Nat, k ≤ n ∧ i = .int .i64 k ∧ l.take k = l'.take k ∧ Below w.heap.size w wr) (fun i _ => n - (intOf i).toNat)
    case atStart => exact ⟨0, Nat.zero_le _, rfl, rfl, Below.refl _ _⟩
    case round =>
      obtain ⟨k, hk, rfl, heq, hb⟩ := hrel
      have heq' := Lib.hid heq
      clear heq
      by_cases hlt : k < n
      · obtain ⟨b, off, x, y, rfl, hbB, hx, c1, c2⟩ := h.pair hlt
        obtain ⟨b', off', x', y', rfl, hbB', hy, c1', c2'⟩ := h'.pair hlt
        have hx' := Lib.hid hx; clear hx
        have hy' := Lib.hid hy; clear hy
        have d1 := (hb.cell (by exact hbB)).trans c1
        have d2 := (hb.cell (by exact hbB)).trans c2
        have d1' := (hb.cell (by exact hbB')).trans c1'
        have d2' := (hb.cell (by exact hbB')).trans c2'
        clear c1 c2 c1' c2'
        go_wp2_with fail
        go_still_tail 8, (by kernel_rfl)
        change wpList _ _ _ _ _ wr.drew
        have hb2 := hb.drew
        obtain ⟨w2, hw2⟩ : ∃ w2, w2 = wr.drew := ⟨_, rfl⟩
        rw [← hw2] at hb2 ⊢
        clear hw2
        go_wp2_with fail
        by_cases he : x = x' ∧ y = y'
        · obtain ⟨rfl, rfl⟩ := he
          refine (eqFrac_any _ _ _ _ _).mono ?_
          rintro e w3 ⟨rfl, hb3⟩
          go_wp2
          go_roundw
          case rel => exact ⟨k + 1, by omega, by go_num, by rw [List.take_add_one, List.take_add_one, heq'.out, hx'.out, hy'.out], hb2.trans (hb3.mono hb2.size)⟩
          case measure => simp [intOf]; omega
        · have hd : decide (x = x' ∧ y = y') = false := by simp only [he, decide_false]
          have hE : ¬ l = l' := by
            rintro rfl
            have := hx'.out.symm.trans hy'.out
            simp only [Option.some.injEq, Prod.mk.injEq] at this
            exact he this
          have hE' := Lib.hid hE
          have C := eqFrac_any x y x' y' w2
          rw [hd] at C
          clear hE he hd
          refine C.mono ?_
          rintro e w3 ⟨rfl, hb3⟩
          clear C
          go_wp2
          go_ret
          exact ⟨ret_bool (by simp only [hE'.out, decide_false]), hb2.trans (hb3.mono hb2.size)⟩
      · obtain rfl : k = n := by omega
        have hE : l = l' := by rw [← List.take_of_length_le (show l.length ≤ k by rw [hl1.out]; exact Nat.le_refl _), heq'.out, List.take_of_length_le (by rw [hl2.out]; exact Nat.le_refl _)]
        have hE' := Lib.hid hE
        clear hE
        go_wp2
        go_ret
        exact ⟨ret_bool (by rw [hE'.out]; simp), hb⟩
  · have hl : ¬ l = l' := fun e => hne (by rw [← h.1, ← h'.1, e])
    have hl' := Lib.hid hl
    clear hl
    go_enter Try.func38, Try.ntmps38
    go_wp2
    go_ret
    exact ⟨ret_bool (by simp [hl'.out]), Below.refl _ _⟩
theorem eqFracS_yes {A A' : Option Addr} {n c n' c' : Nat} {l : List (Int × Int)} {w : World} (h : Arr PP 2 w w.heap.size A n l) (h' : Arr PP 2 w w.heap.size A' n' l) (hn : n ≤ 1048576) :
    Calls Try.prog 38 #[.slice A n c, .slice A' n' c'] w fun e w' => e = .returned (.bool true) ∧ Below w.heap.size w w' := by
  have C := eqFracS_any A n c l A' n' c' l w h h' hn (by have := h.1; have := h'.1; omega)
  rw [decide_eq_true rfl] at C
  exact C
end Go.Proofs.Ytfohfcpnhhiemaa
