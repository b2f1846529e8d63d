/-
  Contract: DrawCoreJoin.
-/
import Derived.Test.YtefadlbfkhndfaaGreatDoorGE
import Derived.Test.YtefadlbfkhndfaaGreatDoorSpecCoreCut
namespace Go.Proofs.YtefadlbfkhndfaaGreatDoor
open Go.RowKit
set_option linter.unusedSimpArgs false
set_option linter.unusedVariables false

set_option maxHeartbeats 2000000 in
theorem DrawCoreJoin_any (A : Option Addr) (n c : Nat) (l : List Int) (w : World) (h : Arr BB 1 w w.heap.size A n l) (hby : ∀ x ∈ l, 0 ≤ x ∧ x ≤ 255) (hc : n ≤ c) :
    Calls Tryz.prog 38 #[.slice A n c] w (DrawnTop PP 2 69 w 20) := by
  have C := Lib.hid (l6Open_any A n c l w h hby hc)
  clear hby h
  go_enter Tryz.func38, Tryz.ntmps38
  go_wp2_with fail
  refine C.out.mono ?_
  rintro e w1 ⟨rfl, hr, hb, hs⟩
  clear C
  go_wp2_with fail
  refine (l91Core_any _ 0 w1 hr (by omega)).mono ?_
  rintro e w2 ⟨A2, n2, c2, l2, p2, rfl, ho, hn, hr2, hp2, hg⟩
  have hb2 := hb.grown hg (by omega) (by intro k hk; simp at hk; omega)
  have hs2 := hg.size
  clear hg hr hb
  go_wp2_with fail
  refine (pick_any _ p2 150 _ hr2 (by omega) (by omega)).mono ?_
  rintro e w3 ⟨x, rfl, hx, hr3, hg3⟩
  have ho3 := ho.kept hg3 (by intro k hk; simp at hk; omega)
  have hb3 := hb2.grown hg3 hb2.size (by intro k hk; simp at hk; omega)
  have hs3 := hg3.size
  have hcap : n2 ≤ c2 := by
    obtain ⟨_, _, e, hcc, _⟩ := ho3.form
    injection e with e1 e2 e3
    omega
  have K := Lib.hid (specCoreCut_any A2 n2 c2 l2 (x : Int) w3 (ho3.arr PP_length) (by omega) hcap)
  have HO := Lib.hid ho3
  have HB := Lib.hid hb3
  clear hg3 hr2 hb2 ho ho3 hb3 hr3
  have hok := Lib.hid (fun l' (e : coreCutL l2 (x : Int) = some l') => coreCutL_ok e)
  cases hcut : coreCutL l2 (x : Int) with
  | none =>
    rw [hcut] at K
    go_wp2_with (go_at_call 34; refine K.out.mono ?_; rintro e w4 ⟨A4, n4, c4, rfl, o4, b4⟩)
    go_ret
    exact ⟨A2, n2, c2, l2, rfl, (HO.out.below b4 (Nat.le_refl _)).less (by omega), by omega, HB.out.trans (b4.mono HB.out.size)⟩
  | some l' =>
    have h20 := Lib.hid ((coreB_iff l').1 (hok.out l' hcut)).2
    rw [hcut] at K
    go_wp2_with (go_at_call 34; refine K.out.mono ?_; rintro e w4 ⟨A4, n4, c4, rfl, o4, b4⟩)
    go_ret
    have h4 := o4.1
    exact ⟨A4, n4, c4, l', rfl, o4.less HB.out.size, by rw [← h4]; exact h20.out, HB.out.trans (b4.mono HB.out.size)⟩
end Go.Proofs.YtefadlbfkhndfaaGreatDoor
