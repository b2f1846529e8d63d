/-
  The walks of the laws on drawn cores: MostKerf, MostPieces, MostLess, MostOne.
-/
import Derived.Test.YtoelnlkkkpijhaaLawMost
import Derived.Test.YtoelnlkkkpijhaaDrawCore
import Derived.Test.YtoelnlkkkpijhaaPlainW
namespace Go.Proofs.Ytoelnlkkkpijhaa
open Go.RowKit
set_option linter.unusedSimpArgs false
set_option linter.unusedVariables false

/-! ### Plain laws on counts -/
theorem mostOf_good {l : List Pc} {width kf : Int} (h : 0 ≤ mostOf l width kf) : coreB l = true ∧ (1 ≤ width ∧ width ≤ 1000) ∧ (0 ≤ kf ∧ kf ≤ 100) ∧ mostOf l width kf = cnt width kf l := by
  unfold mostOf at h ⊢
  split at h
  · rename_i hh
    have := (mostOk_iff _ _ _).1 hh
    exact ⟨this.1, this.2.1, this.2.2, by rw [if_pos hh]⟩
  · omega
theorem mostOf_ok {l : List Pc} {width kf : Int} (h1 : coreB l = true) (h2 : 1 ≤ width ∧ width ≤ 1000) (h3 : 0 ≤ kf ∧ kf ≤ 100) : mostOf l width kf = cnt width kf l := by
  unfold mostOf; rw [if_pos ((mostOk_iff _ _ _).2 ⟨h1, h2, h3⟩)]
theorem mostOf_neg {l : List Pc} {width kf : Int} (h : ¬ 0 ≤ mostOf l width kf) : mostOf l width kf = -1 := by
  unfold mostOf at h ⊢
  split at h
  · rename_i hh
    have := (mostOk_iff _ _ _).1 hh
    have h2 := cnt_nonneg this.2.1.1 this.2.2.1 ((coreB_iff l).1 this.1).1
    omega
  · rename_i hh; rw [if_neg hh]

set_option maxHeartbeats 1000000 in
theorem walk_FnMostLess (w : World) (A : Option Addr) (n c : Nat) (l : List Int) (h : Arr BB 1 w w.heap.size A n l) (hby : ∀ x ∈ l, 0 ≤ x ∧ x ≤ 255) (hc : n ≤ c) :
    Calls Try.prog 10 #[.slice A n c] w fun e w' => e = .returned (.bool true) ∧ Below w.heap.size w w' := by
  have C := Lib.hid (DrawSampleMost_any A n c l w h hby hc)
  clear hby h
  by_cases hb : 1048576 < n
  · go_enter Try.func10, Try.ntmps10
    go_wp2_with fail
    go_ret
    exact ⟨rfl, Below.refl _ _⟩
  go_enter Try.func10, Try.ntmps10
  go_wp2_with fail
  refine C.out.mono ?_
  rintro e w1 ⟨A1, n1, c1, L, a, k, rfl, o1, hn1, b1⟩
  clear C
  have hc1 := o1.cap
  have a1 := o1.arr PP_length
  clear o1
  go_wp2_with fail
  refine (implMost_any A1 n1 c1 L a k _ a1 hc1 (by omega)).mono ?_
  rintro e w2 ⟨rfl, b2⟩
  have a2 := (a1.below' b2).more b2.size
  have B2 := b1.trans (b2.mono b1.size)
  clear a1 b1 b2
  go_wp2_with fail
  refine (specMost_any A1 n1 c1 L a k _ a2 hc1 (by omega)).mono ?_
  rintro e w3 ⟨rfl, b3⟩
  have a3 := (a2.below' b3).more b3.size
  have B3 := B2.trans (b3.mono B2.size)
  clear a2 B2 b3
  by_cases hpos : 0 ≤ mostOf L a k
  · obtain ⟨hB, ⟨wl, wh⟩, ⟨kl, kh⟩, hE⟩ := mostOf_good hpos
    have hF := ((coreB_iff L).1 hB).1
    have h1 := cnt_wider wl kl hF
    have h2 := cnt_le wl kl hF
    have h3 := lenOf_bd' hF
    have h4 := cnt_nonneg wl kl hF
    have h5 := cnt_le_len wl kl hF
    have hX : mostOf L (a + 1) k ≤ mostOf L a k := by
      by_cases ha : a + 1 ≤ 1000
      · rw [mostOf_ok hB ⟨by omega, ha⟩ ⟨kl, kh⟩, hE]; exact h1
      · have : mostOf L (a + 1) k = -1 := by unfold mostOf; rw [if_neg (by rw [mostOk_iff]; omega)]
        omega
    have hCL := coreLen_good hB
    have hY : mostOf L a k * a ≤ coreLen L := by rw [hE, hCL]; exact h2
    have hM : 0 ≤ mostOf L a k * a ∧ mostOf L a k * a ≤ 4611686018427387904 := ⟨Int.mul_nonneg hpos (by omega), by rw [hCL] at hY; omega⟩
    have K := implCoreLength_any A1 n1 c1 L
    obtain ⟨M, hMM⟩ : ∃ M, M = mostOf L a k := ⟨_, rfl⟩
    obtain ⟨X, hXX⟩ : ∃ M, M = mostOf L (a + 1) k := ⟨_, rfl⟩
    obtain ⟨CL, hCC⟩ : ∃ M, M = coreLen L := ⟨_, rfl⟩
    have KX := implMost_any A1 n1 c1 L (a + 1) k
    rw [← hXX] at KX hX
    rw [← hMM] at hX hY hM hpos ⊢
    rw [← hCC] at hY K
    clear hXX hMM hCC hE hB hF h1 h2 h3 h4 h5 hCL
    have wM : wrap64 (M * a) = M * a := w64 hM
    have KX' := Lib.hid KX
    have K' := Lib.hid K
    clear KX K hM
    go_wp2_with fail
    refine (KX'.out _ a3 hc1 (by omega)).mono ?_
    rintro e w4 ⟨rfl, b4⟩
    have B4 := B3.trans (b4.mono B3.size)
    have a4 := (a3.below' b4).more b4.size
    clear b4
    go_wp2_with fail
    refine (K'.out _ a4 (by omega)).mono ?_
    rintro e w5 ⟨rfl, b5⟩
    have B5 := B4.trans (b5.mono B4.size)
    clear b5
    go_wp2
    go_ret
    exact ⟨rfl, B5⟩
  · have hN := mostOf_neg hpos
    obtain ⟨M, hMM⟩ : ∃ M, M = mostOf L a k := ⟨_, rfl⟩
    rw [← hMM] at hN ⊢
    clear hMM hpos
    subst hN
    go_wp2
    go_ret
    exact ⟨rfl, B3⟩
end Go.Proofs.Ytoelnlkkkpijhaa
