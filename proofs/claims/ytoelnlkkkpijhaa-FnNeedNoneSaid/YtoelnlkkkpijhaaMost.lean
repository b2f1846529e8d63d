/-
  Contracts: the program's SampleMost; the reference's l42Place and SampleMost.
-/
import Derived.Test.YtoelnlkkkpijhaaSaw
namespace Go.Proofs.Ytoelnlkkkpijhaa
open Go.RowKit
set_option linter.unusedSimpArgs false
set_option linter.unusedVariables false

def mostOk (l : List Pc) (width kf : Int) : Bool := coreB l && decide (1 ≤ width ∧ width ≤ 1000) && decide (0 ≤ kf ∧ kf ≤ 100)
def mostOf (l : List Pc) (width kf : Int) : Int := if mostOk l width kf = true then cnt width kf l else -1
theorem mostOk_iff (l : List Pc) (width kf : Int) : mostOk l width kf = true ↔ coreB l = true ∧ (1 ≤ width ∧ width ≤ 1000) ∧ (0 ≤ kf ∧ kf ≤ 100) := by
  simp only [mostOk, Bool.and_eq_true, decide_eq_true_eq, and_assoc]

theorem isWidth_yes (x : Int) (w : World) (h1 : 1 ≤ x) (h2 : x ≤ 1000) : Calls Try.prog 31 #[.int .i64 x] w fun e w' => e = .returned (.bool true) ∧ w = w' := by
  go_enter Try.func31, Try.ntmps31
  go_wp2
  go_ret
  exact ⟨rfl, rfl⟩
theorem isKerf_yes (x : Int) (w : World) (h1 : 0 ≤ x) (h2 : x ≤ 100) : Calls Try.prog 40 #[.int .i64 x] w fun e w' => e = .returned (.bool true) ∧ w = w' := by
  go_enter Try.func40, Try.ntmps40
  go_wp2
  go_ret
  exact ⟨rfl, rfl⟩

set_option maxHeartbeats 1000000 in
theorem implMost_any (A : Option Addr) (n c : Nat) (l : List Pc) (width kf : Int) (w : World) (h : Arr PP 2 w w.heap.size A n l) (hc : n ≤ c) (hn : n ≤ 1099511627776) :
    Calls Try.prog 24 #[.slice A n c, .int .i64 width, .int .i64 kf] w fun e w' => e = .returned (.int .i64 (mostOf l width kf)) ∧ Below w.heap.size w w' := by
  have hln := Lib.hid h.1
  have C := implCoreValid_any A n c l w h hn
  cases hB : coreB l with
  | false =>
    rw [hB] at C
    have C' := Lib.hid C
    have hL := Lib.hid (show mostOf l width kf = -1 by unfold mostOf mostOk; rw [hB]; rfl)
    clear C hB
    go_enter Try.func24, Try.ntmps24
    go_wp2_with fail
    refine C'.out.mono ?_
    rintro e w1 ⟨rfl, hb⟩
    go_wp2
    go_ret
    exact ⟨ret_int hL.out.symm, hb⟩
  | true =>
    rw [hB] at C
    have C' := Lib.hid C
    by_cases hw : 1 ≤ width ∧ width ≤ 1000
    · by_cases hk : 0 ≤ kf ∧ kf ≤ 100
      · have hL := Lib.hid (show mostOf l width kf = cnt width kf l by unfold mostOf; rw [if_pos ((mostOk_iff _ _ _).2 ⟨hB, hw, hk⟩)])
        have hF := Lib.hid ((coreB_iff l).1 hB).1
        have h20 := ((coreB_iff l).1 hB).2
        rw [h.1] at h20
        obtain ⟨w1l, w1h⟩ := hw
        obtain ⟨k0, k1⟩ := hk
        clear C hB
        go_enter Try.func24, Try.ntmps24
        go_wp2_with fail
        refine C'.out.mono ?_
        rintro e w1 ⟨rfl, hb1⟩
        clear C'
        go_wp2_with (first | (go_at_call 31; refine (isWidth_yes _ _ w1l w1h).mono ?_; rintro e w' ⟨rfl, rfl⟩) | (go_at_call 40; refine (isKerf_yes _ _ k0 k1).mono ?_; rintro e w' ⟨rfl, rfl⟩))
        have hS0 : Saw (fun _ => False) (w1.alloc (.cells #[.slice A n c, .int .i64 kf] 67)) w1.heap.size 67 kf n l :=
          ⟨A, c, heap_alloc_new w1 _, hc, ((h.below' hb1).alloc hb1.size _).more (by have := hb1.size; simp; omega), fun b off hn0 e => by
            refine ⟨?_, id⟩
            obtain ⟨b', off', e', hb', _⟩ := h.2 hn0
            rw [e] at e'
            injection e' with e'
            injection e' with e' _
            have := hb1.size
            omega⟩
        have hB0 : Below w.heap.size w (w1.alloc (.cells #[.slice A n c, .int .i64 kf] 67)) := hb1.alloc hb1.size _
        have hGs := hb1.size
        generalize w1.alloc (.cells #[.slice A n c, .int .i64 kf] 67) = w2 at hS0 hB0 ⊢
        generalize w1.heap.size = G at hS0 hGs ⊢
        have HS0 := Lib.hid hS0
        have hcn := Lib.hid (cnt_nonneg (w := width) w1l k0 hF.out)
        have hcl := cnt_le_len (w := width) w1l k0 hF.out
        have hll := lenOf_bd' hF.out
        clear hS0 hb1
        obtain ⟨M, hM⟩ : ∃ M, M = cnt width kf l := ⟨_, rfl⟩
        have hM30 : M ≤ 30000 := by omega
        have HM := Lib.hid hM
        clear hM hcl hll
        go_loopw [8] (fun m wr => ∃ (k n' : Nat) (L' : List Pc), m = .int .i64 k ∧ n' ≤ 20 ∧ Saw (fun _ => False) wr G 67 kf n' L' ∧ coreFrom 0 L' = true ∧ (k : Int) + cnt width kf L' = M ∧ Below w.heap.size w wr) (fun m _ => (M + 1 - intOf m).toNat)
        case atStart => exact ⟨0, n, l, rfl, h20, HS0.out, hF.out, by rw [HM.out]; omega, hB0⟩
        case round =>
          obtain ⟨k, n', L', rfl, hn', hS, hF2, hsum, hb⟩ := hrel
          have C := cut_any G n' kf width L' wr hS hn' hF2 ⟨w1l, w1h⟩ ⟨k0, k1⟩ (fun _ h => h.elim)
          have hcc := cut_cnt (w := width) w1l k0 hF2
          have hnn := cnt_nonneg (w := width) w1l k0 hF2
          unfold CutPost at C
          cases hq : cutL width kf L' with
          | none =>
            have h0 := hcc.1 hq
            rw [hq] at C
            have C' := Lib.hid C
            have hkM := Lib.hid (show (k : Int) = cnt width kf l by rw [← HM.out]; omega)
            clear C hcc hq hsum h0 hS hF2
            go_wp2_with fail
            refine C'.out.mono ?_
            rintro e w4 ⟨⟨rfl, _⟩, hg4⟩
            go_wp2
            go_ret
            exact ⟨ret_int (by rw [hL.out, hkM.out]), hb.grown hg4 hb.size (by intro j hj; injection hj with hj; omega)⟩
          | some q =>
            obtain ⟨x, L2⟩ := q
            have h0 := hcc.2 hq
            have hgd := cutL_good (w := width) w1l k0 hF2 hq
            have hnn2 := cnt_nonneg (w := width) w1l k0 hgd.1
            rw [hq] at C
            have C' := Lib.hid C
            have hl1 := hS.choose_spec.choose_spec.2.2.1.1
            have hsum2 := Lib.hid (show ((k + 1 : Nat) : Int) + cnt width kf L2 = M by omega)
            have hkb : (k : Int) < M := by omega
            clear C hcc hq hsum h0 hS hF2
            go_wp2_with fail
            refine C'.out.mono ?_
            rintro e w4 ⟨⟨rfl, hS4⟩, hg4⟩
            have hb4 := hb.grown hg4 hb.size (by intro j hj; injection hj with hj; omega)
            have HS4 := Lib.hid hS4
            have HB4 := Lib.hid hb4
            clear hS4 hg4 hb4 C'
            go_wp2
            go_roundw
            case rel => exact ⟨k + 1, L2.length, L2, by go_num, by omega, HS4.out, hgd.1, hsum2.out, HB4.out⟩
            case measure => simp [intOf]; omega
      · have hL := Lib.hid (show mostOf l width kf = -1 by unfold mostOf; rw [if_neg (by rw [mostOk_iff]; intro hh; exact hk hh.2.2)])
        clear C hB
        rcases (show kf < 0 ∨ (0 ≤ kf ∧ 100 < kf) by omega) with k0 | ⟨k0, k1⟩
        all_goals
          obtain ⟨w1l, w1h⟩ := hw
          clear hk
          go_enter Try.func24, Try.ntmps24
          go_wp2_with fail
          refine C'.out.mono ?_
          rintro e w1 ⟨rfl, hb⟩
          go_wp2
          all_goals first | (go_ret; exact ⟨ret_int hL.out.symm, hb⟩) | (exfalso; rename_i hno; simp at hno; omega)
    · have hL := Lib.hid (show mostOf l width kf = -1 by unfold mostOf; rw [if_neg (by rw [mostOk_iff]; intro hh; exact hw hh.2.1)])
      clear C hB
      rcases (show width < 1 ∨ (1 ≤ width ∧ 1000 < width) by omega) with k0 | ⟨k0, k1⟩
      all_goals
        clear hw
        go_enter Try.func24, Try.ntmps24
        go_wp2_with fail
        refine C'.out.mono ?_
        rintro e w1 ⟨rfl, hb⟩
        go_wp2
        all_goals first | (go_ret; exact ⟨ret_int hL.out.symm, hb⟩) | (exfalso; rename_i hno; simp at hno; omega)
end Go.Proofs.Ytoelnlkkkpijhaa
