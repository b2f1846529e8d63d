/-
  The walks of the laws on drawn cores: MostOne.
-/
import Derived.Test.YtoelnlkkkpijhaaLawMosts
namespace Go.Proofs.Ytoelnlkkkpijhaa
open Go.RowKit
set_option linter.unusedSimpArgs false
set_option linter.unusedVariables false

set_option maxHeartbeats 1000000 in
theorem walk_FnMostOne (w : World) (A : Option Addr) (n c : Nat) (l : List Int) (h : Arr BB 1 w w.heap.size A n l) (hby : ∀ x ∈ l, 0 ≤ x ∧ x ≤ 255) (hc : n ≤ c) :
    Calls Try.prog 11 #[.slice A n c] w fun e w' => e = .returned (.bool true) ∧ Below w.heap.size w w' := by
  have C := Lib.hid (DrawSampleMost_any A n c l w h hby hc)
  clear hby h
  by_cases hb : 1048576 < n
  · go_enter Try.func11, Try.ntmps11
    go_wp2_with fail
    go_ret
    exact ⟨rfl, Below.refl _ _⟩
  go_enter Try.func11, Try.ntmps11
  go_wp2_with fail
  refine C.out.mono ?_
  rintro e w1 ⟨A1, n1, c1, L, a, k, rfl, o1, hn1, b1⟩
  clear C
  have hc1 := o1.cap
  have a1 := o1.arr PP_length
  clear o1
  go_wp2_with fail
  refine (implMost_any A1 n1 c1 L a k _ a1 hc1 (by omega)).mono ?_
  rintro e w2 ⟨rfl, b2⟩
  have a2 := (a1.below' b2).more b2.size
  have B2 := b1.trans (b2.mono b1.size)
  clear a1 b1 b2
  go_wp2_with fail
  refine (specMost_any A1 n1 c1 L a k _ a2 hc1 (by omega)).mono ?_
  rintro e w3 ⟨rfl, b3⟩
  have a3 := (a2.below' b3).more b3.size
  have B3 := B2.trans (b3.mono B2.size)
  clear a2 B2 b3
  by_cases hpos : 0 ≤ mostOf L a k
  · obtain ⟨hB, ⟨wl, wh⟩, ⟨kl, kh⟩, hE⟩ := mostOf_good hpos
    have hF := ((coreB_iff L).1 hB).1
    have hLn := Lib.hid a3.1
    have h3 := lenOf_bd' hF
    have h5 := cnt_le_len wl kl hF
    have hCL := coreLen_good hB
    have K := implCoreLength_any A1 n1 c1 L
    have KX := implMost_any A1 n1 c1 L 1 0
    rw [mostOf_ok hB ⟨by omega, by omega⟩ ⟨by omega, by omega⟩, cnt_one] at KX
    rw [hCL] at K
    rw [← hE] at h5
    obtain ⟨M, hMM⟩ : ∃ M, M = mostOf L a k := ⟨_, rfl⟩
    obtain ⟨CL, hCC⟩ : ∃ M, M = lenOf L := ⟨_, rfl⟩
    rw [← hMM] at h5 hpos ⊢
    rw [← hCC] at h5 K KX
    clear hMM hCC hE hB hF h3 hCL
    have KX' := Lib.hid KX
    have K' := Lib.hid K
    clear KX K
    go_wp2_with fail
    refine (KX'.out _ a3 hc1 (by omega)).mono ?_
    rintro e w4 ⟨rfl, b4⟩
    have B4 := B3.trans (b4.mono B3.size)
    have a4 := (a3.below' b4).more b4.size
    clear b4
    go_wp2_with fail
    refine (K'.out _ a4 (by omega)).mono ?_
    rintro e w5 ⟨rfl, b5⟩
    have B5 := B4.trans (b5.mono B4.size)
    have a5 := (a4.below' b5).more b5.size
    clear b5
    go_wp2_with fail
    refine (K'.out _ a5 (by omega)).mono ?_
    rintro e w6 ⟨rfl, b6⟩
    have B6 := B5.trans (b6.mono B5.size)
    clear b6
    go_wp2
    go_ret
    exact ⟨rfl, B6⟩
  · have hN := mostOf_neg hpos
    obtain ⟨M, hMM⟩ : ∃ M, M = mostOf L a k := ⟨_, rfl⟩
    rw [← hMM] at hN ⊢
    clear hMM hpos
    subst hN
    go_wp2
    go_ret
    exact ⟨rfl, B3⟩

end Go.Proofs.Ytoelnlkkkpijhaa
