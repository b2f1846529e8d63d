/-
  Contracts: the reference's l6Dec at numbers of up to seven digits.
-/
import Derived.Test.YtefadlbfkhndfaaGreatDoorGB
import Derived.Test.YtefadlbfkhndfaaGreatDoorGC
import Derived.Deep.RegionHeld3
namespace Go.Proofs.YtefadlbfkhndfaaGreatDoor
open Go.RowKit
set_option linter.unusedSimpArgs false
set_option linter.unusedVariables false

set_option maxRecDepth 100000 in
set_option maxHeartbeats 2000000 in
theorem l6DecB_step (u q r : Nat) (w : World) (h : 10 ≤ u) (hu : u ≤ 10000000) (hq : u / 10 = q) (hr : u % 10 = r)
    (IH : ∀ W, Calls Tryz.prog 43 #[.int .i64 q] W fun e w' => e = .returned (.string (tx (Lib.decDigits q))) ∧ Below W.heap.size W w') :
    Calls Tryz.prog 43 #[.int .i64 u] w fun e w' => e = .returned (.string (tx (Lib.decDigits u))) ∧ Below w.heap.size w w' := by
  have hD := Lib.hid (show Lib.decDigits u = Lib.decDigits q ++ [UInt8.ofNat (48 + r)] by rw [Lib.decDigits, dif_neg (by omega), hq, hr])
  have hl := dec_len 7 q (by omega)
  have hr9 : r < 10 := by omega
  have IH' := Lib.hid IH
  have f1 : decide ((u : Int) < -9223372036854775807) = false := decide_eq_false (by omega)
  have f2 : decide ((u : Int) < 0) = false := decide_eq_false (by omega)
  have f3 : decide ((u : Int) < 10) = false := decide_eq_false (by omega)
  obtain ⟨S, hS⟩ : ∃ S, S = tx (Lib.decDigits q) := ⟨_, rfl⟩
  have hSz : S.size ≤ 8 := by rw [hS, tx_size]; exact hl
  have hT := Lib.hid (show S ++ tx [UInt8.ofNat (48 + r)] = tx (Lib.decDigits u) by rw [hS, tx_add, hD.out])
  rw [← hS] at IH'
  have hTz : (tx [UInt8.ofNat (48 + r)]).size = 1 := tx_size _
  obtain ⟨T, hTT⟩ : ∃ T, T = tx [UInt8.ofNat (48 + r)] := ⟨_, rfl⟩
  have kc := fun W g hc => conv_one (d := 48 + r) (by omega) W g hc
  rw [← hTT] at kc hT hTz
  rw [show (((48 + r : Nat)) : Int) = 48 + (r : Int) by omega] at kc
  have hsum : S.size + T.size ≤ 9223372036854775807 := by omega
  have hadd := fun W => run_string_add_sum (P := Tryz.prog) (w := W) S T hsum
  have e1 : Int.tdiv (u : Int) 10 = (q : Int) := by rw [Int.tdiv_eq_ediv_of_nonneg (by omega)]; omega
  have e2 : Int.tmod (u : Int) 10 = (r : Int) := by rw [Int.tmod_eq_emod_of_nonneg (by omega)]; omega
  have B1 : 0 ≤ 48 + (r : Int) ∧ 48 + (r : Int) ≤ 4611686018427387904 := by omega
  have B2 : 0 ≤ (q : Int) ∧ (q : Int) ≤ 4611686018427387904 := by omega
  have B3 : 0 ≤ 48 + (r : Int) ∧ 48 + (r : Int) ≤ 255 := by omega
  have B4 : -9223372036854775808 ≤ 48 + (r : Int) ∧ 48 + (r : Int) ≤ 9223372036854775807 := by omega
  have B5 : -9223372036854775808 ≤ (q : Int) ∧ (q : Int) ≤ 9223372036854775807 := by omega
  have e5 : IntKind.u8.wrap (48 + (r : Int)) = 48 + (r : Int) := IntWalk.u8_in _ B3
  have e6 : wrap64 (48 + (r : Int)) = 48 + (r : Int) := w64 B1
  have e7 : wrap64 (q : Int) = (q : Int) := w64 B2
  have e3 : IntKind.i64.wrap (48 + (r : Int)) = 48 + (r : Int) := IntWalk.i64_in _ B4
  have e4 : IntKind.i64.wrap (q : Int) = (q : Int) := IntWalk.i64_in _ B5
  have k1 := kc (w.drew.alloc (.cells #[.int .u8 (48 + (r : Int))] 5)) w.heap.size (new_oneD w _ _)
  have k1' : (convert 24 9 (.slice (some ⟨w.heap.size, 0, none⟩) 1 1)).run Tryz.prog (w.alloc (.cells #[.int .u8 (48 + (r : Int))] 5)).drew = .ok (.string T) (w.alloc (.cells #[.int .u8 (48 + (r : Int))] 5)).drew := k1
  have KC := Lib.hid kc
  clear hD hl hq hr IH hS hTT hSz hTz hsum B1 B2 B3 B4 B5 kc
  go_enter Tryz.func43, Tryz.ntmps43
  go_wp2_with fail
  go_region_with (first
    | (go_at_call 43; refine (IH'.out w.drew).mono ?_; rintro e w2 ⟨rfl, b2⟩; have k2 := KC.out (w2.alloc (.cells #[.int .u8 (48 + (r : Int))] 5)) w2.heap.size (new_one w2 _ _))
    | (go_at_call 43; refine (IH'.out (w.drew.alloc (.cells #[.int .u8 (48 + (r : Int))] 5))).mono ?_; rintro e w2 ⟨rfl, b2⟩; have k2 := KC.out w2 w.heap.size ((b2.cell (by simp)).trans (new_oneD w _ _))))
  all_goals
    have HB := Lib.hid b2
    clear k1 k1' k2 b2
    go_wp2
    go_ret
    refine ⟨ret_str hT.out, ?_⟩
    have hb := HB.out
    first
      | exact ((((Below.refl w.heap.size w).drew).alloc (by simp) _).trans (hb.mono (by simp)))
      | exact (((Below.refl w.heap.size w).drew).trans (hb.mono (by simp))).alloc (by have := hb.size; simp at this; omega) _
      | exact ((Below.refl w.heap.size w).drew).trans (hb.mono (by simp))

theorem l6DecB_any (u : Nat) (w : World) (hu : u ≤ 10000000) :
    Calls Tryz.prog 43 #[.int .i64 u] w fun e w' => e = .returned (.string (tx (Lib.decDigits u))) ∧ Below w.heap.size w w' := by
  have key : ∀ (k u : Nat) (w : World), u ≤ k → u ≤ 10000000 → Calls Tryz.prog 43 #[.int .i64 u] w fun e w' => e = .returned (.string (tx (Lib.decDigits u))) ∧ Below w.heap.size w w' := by
    intro k
    induction k with
    | zero => intro u w h h2; exact l6Dec_small u w (by omega)
    | succ k ih =>
      intro u w h h2
      by_cases h3 : u < 10
      · exact l6Dec_small u w h3
      · exact l6DecB_step u (u / 10) (u % 10) w (by omega) h2 rfl rfl (fun W => ih (u / 10) W (by omega) (by omega))
  exact key u u w (Nat.le_refl _) hu
end Go.Proofs.YtefadlbfkhndfaaGreatDoor
