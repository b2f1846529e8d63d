/-
  Contract: CoreHas of the reference.
-/
import Derived.Test.YtefadlbfkhndfaaGreatDoorHasP
import Derived.Test.YtefadlbfkhndfaaGreatDoorGB
import Derived.BigQuiet
namespace Go.Proofs.YtefadlbfkhndfaaGreatDoor
open Go.RowKit
set_option linter.unusedSimpArgs false
set_option linter.unusedVariables false

set_option maxRecDepth 100000 in
set_option maxHeartbeats 4000000 in
theorem specCoreHas_any (A : Option Addr) (n c : Nat) (l : List Pc) (d : Int) (w : World) (h : Arr PP 2 w w.heap.size A n l) (hn : n ≤ 1000000) :
    Calls Tryz.prog 66 #[.slice A n c, .int .i64 d] w fun e w' => e = .returned (.int .i64 (hasI (hasL l d))) ∧ Below w.heap.size w w' := by
  have hln := Lib.hid h.1
  have CV := Lib.hid (fun W (hW : Below w.heap.size w W) => specCoreValid_any A n c l W ((h.below hW (Nat.le_refl _)).more hW.size) (by omega))
  cases hB : coreB l with
  | false =>
    have hL : hasL l d = none := by unfold hasL; rw [if_neg (by simp [hB])]
    rw [hL]
    rw [hB] at CV
    clear hB hL
    go_enter Tryz.func66, Tryz.ntmps66
    go_wp2_with fail
    go_loopw [5] (fun i wr => i = .int .i64 0 ∧ Below w.heap.size w wr) (fun _ _ => 0)
    case atStart => exact ⟨rfl, Below.refl _ _⟩
    case round =>
      obtain ⟨rfl, hb⟩ := hrel
      by_cases h0 : n = 0
      · subst h0
        go_wp2
        go_ret
        exact ⟨rfl, hb⟩
      · have h1 : (0 : Int) < (n : Int) := by omega
        go_wp2_with (go_at_call 69; refine (CV.out _ hb).mono ?_; rintro e w' ⟨rfl, b2⟩)
        go_ret
        exact ⟨rfl, hb.trans (b2.mono hb.size)⟩
  | true =>
    have hL : hasL l d = atL d l := by unfold hasL; rw [if_pos hB]
    rw [hL]
    rw [hB] at CV
    clear hB hL
    go_enter Tryz.func66, Tryz.ntmps66
    go_wp2_with fail
    go_loopw [5] (fun i wr => ∃ k : Nat, k ≤ n ∧ i = .int .i64 k ∧ Hid (∀ p ∈ l.take k, holds d p = false) ∧ Below w.heap.size w wr) (fun i _ => n - (intOf i).toNat)
    case atStart => exact ⟨0, Nat.zero_le _, rfl, Lib.hid (fun p hp => by simp at hp), Below.refl _ _⟩
    case round =>
      obtain ⟨k, hk, rfl, hst, hb⟩ := hrel
      by_cases hlt : k < n
      · obtain ⟨bb, off, x, y, rfl, hbB, hx, c1, c2⟩ := h.pair hlt
        have HX := Lib.hid hx
        clear hx
        have ik : (k : Int) < (n : Int) := by omega
        have ik0 : (0 : Int) ≤ (k : Int) := by omega
        have CV2 : Hid (∀ W, Below w.heap.size w W → Calls Tryz.prog 69 #[.slice (some ⟨bb, off, none⟩) n c] W fun e w' => e = .returned (.bool true) ∧ Below w.heap.size w w' ∧ w'.cell? ⟨bb, off + k * 2, none⟩ = some (.int .i64 x) ∧ w'.cell? ⟨bb, off + k * 2 + 1, none⟩ = some (.int .i64 y)) := Lib.hid (fun W hW => (CV.out W hW).mono fun e w' ⟨he, h2⟩ => have hV := hW.trans (h2.mono hW.size); ⟨he, hV, (hV.cell (by exact hbB)).trans c1, (hV.cell (by exact hbB)).trans c2⟩)
        clear c1 c2 CV
        by_cases h1 : x ≤ d
        · by_cases h2 : d < y
          · have hf := Lib.hid (show atL d l = some k from atL_here HX.out hst.out ⟨h1, h2⟩)
            clear hst
            go_wp2_with (go_at_call 69; refine (CV2.out _ hb).mono ?_; rintro e w2 ⟨rfl, b2, c1, c2⟩)
            go_ret
            exact ⟨ret_int (by rw [hf.out]; rfl), b2⟩
          · have hf := Lib.hid (notheld_step HX.out hst.out (by omega : ¬ (x ≤ d ∧ d < y)))
            clear hst
            go_wp2_with (go_at_call 69; refine (CV2.out _ hb).mono ?_; rintro e w2 ⟨rfl, b2, c1, c2⟩)
            go_roundw
            case rel => exact ⟨k + 1, by omega, by go_num, hf, b2⟩
            case measure => simp [intOf]; omega
        · have hf := Lib.hid (notheld_step HX.out hst.out (by omega : ¬ (x ≤ d ∧ d < y)))
          clear hst
          go_wp2_with (go_at_call 69; refine (CV2.out _ hb).mono ?_; rintro e w2 ⟨rfl, b2, c1, c2⟩)
          go_roundw
          case rel => exact ⟨k + 1, by omega, by go_num, hf, b2⟩
          case measure => simp [intOf]; omega
      · obtain rfl : k = n := by omega
        have hf := Lib.hid (show atL d l = none from atL_not (by have := hst.out; rwa [List.take_of_length_le (by rw [hln.out]; exact Nat.le_refl _)] at this))
        clear hst
        go_wp2
        go_ret
        exact ⟨ret_int (by rw [hf.out]; rfl), hb⟩
end Go.Proofs.YtefadlbfkhndfaaGreatDoor
