/-
  The walk of the law FnLayersFrom.
-/
import Derived.Test.YtjbdoohpljffnaaDoorLayersFromI
import Derived.Test.YtjbdoohpljffnaaDoorLayersFromS
import Derived.Test.YtjbdoohpljffnaaDoorDrawFrom
import Derived.Test.YtjbdoohpljffnaaDoorSameKn
namespace Go.Proofs.YtjbdoohpljffnaaDoor
open Go.RowKit
set_option linter.unusedSimpArgs false
set_option linter.unusedVariables false

theorem fromL_short40 (s : List UInt8) : ((fromL s).getD []).length ≤ 40 := by
  cases h : fromL s with
  | none => simp
  | some l => exact ((layB_iff l).1 (fromL_is h).1).2
theorem fromL_space (s : List UInt8) : fromL (s ++ [32]) = none := fromL_none fun l' h' => by
  obtain ⟨z, hz⟩ := laysT_end (h'.ne (by simp))
  rw [h'.2] at hz
  have := congrArg List.getLast? hz
  simp at this

set_option maxRecDepth 100000 in
set_option maxHeartbeats 2000000 in
theorem walk_FnLayersFrom (w : World) (A : Option Addr) (n c : Nat) (l : List Int) (h : Arr BB 1 w w.heap.size A n l) (hby : ∀ x ∈ l, 0 ≤ x ∧ x ≤ 255) (hc : n ≤ c) (hT : Tab w) (hE : Errs w) :
    Calls Tryd.prog 15 #[.slice A n c] w fun e w' => e = .returned (.bool true) ∧ Below w.heap.size w w' := by
  have C := Lib.hid (DrawLayersFrom_any A n c l w h hby hc)
  have HT := Lib.hid hT
  have HE := Lib.hid hE
  clear hby h hT hE
  by_cases hb : 1048576 < n
  · go_enter Tryd.func15, Tryd.ntmps15
    go_wp2_with fail
    go_ret
    exact ⟨rfl, Below.refl _ _⟩
  go_enter Tryd.func15, Tryd.ntmps15
  go_wp2_with fail
  refine C.out.mono ?_
  rintro e w1 ⟨S, rfl, hSz, BB⟩
  clear C
  obtain ⟨s, rfl⟩ : ∃ s, S = tx s := ⟨S.data.toList, by cases S; rfl⟩
  have hz := tx_size s
  have KI := Lib.hid (fun W hT hE => implLayersFrom_any s (by omega) W hT hE)
  have KS := Lib.hid (fun W => specLayersFrom_any s (by omega) W)
  have hL := fromL_short40 s
  cases hF : fromL s with
  | none =>
    rw [hF] at KI KS
    clear hL hF
    go_wp2_with fail
    refine (KI.out w1 (HT.out.below BB (Nat.le_refl _)) (HE.out.below BB (Nat.le_refl _))).mono ?_
    rintro e w2 ⟨A2, n2, c2, rfl, o2, b2⟩
    replace BB := BB.trans (b2.mono BB.size)
    clear b2
    go_wp2_with fail
    refine (KS.out w2).mono ?_
    rintro e w3 ⟨A3, n3, c3, rfl, o3, b3⟩
    replace BB := BB.trans (b3.mono BB.size)
    replace o2 := o2.below b3 (Nat.le_refl _)
    obtain rfl : 0 = n2 := o2.1
    obtain rfl : 0 = n3 := o3.1
    clear b3
    simp only [Option.isSome_none]
    go_wp2_with (go_at_call 38; refine (sameLayers_yes (o2.arr LL_length) (o3.arr LL_length) (by omega)).mono ?_; rintro e w4 ⟨rfl, b4⟩; replace BB := BB.trans (b4.mono BB.size); replace o2 := o2.below b4 (Nat.le_refl _); replace o3 := o3.below b4 (Nat.le_refl _); clear b4)
    go_ret
    exact ⟨rfl, BB⟩
  | some L =>
    have hI := fromL_is hF
    have HC := hI
    rw [hF] at KI KS hL
    simp only [Option.getD_some, Option.isSome_some] at KI KS hL
    have hQ := fromL_space s
    have K2 := fun W hT hE => implLayersFrom_any (s ++ [32]) (by simp; omega) W hT hE
    rw [hQ] at K2
    have hB := hI.1
    have hTx : layersT L = s := by unfold layersT; rw [if_pos hB, hI.2]
    obtain ⟨T, hT⟩ : ∃ T, T = tx s ++ tx [32] := ⟨_, rfl⟩
    have AT : ∀ W : World, (Op.stringOp .add (tx s) ⟨#[32]⟩).run Tryd.prog W = .ok (.string T) W := knadd_at (tx s) (tx [32]) T (by rw [tx_size [32]]; simp; omega) hT.symm
    rw [show tx (s ++ [32]) = T by rw [hT, tx_add]] at K2
    have K2' := Lib.hid K2
    have KV := Lib.hid (fun (A0 : Option Addr) n0 c0 W h => implLayersValid_any A0 n0 c0 L W h)
    have KT := Lib.hid (fun (A0 : Option Addr) n0 c0 W h => implLayersText_any A0 n0 c0 L W h)
    rw [hB] at KV
    rw [hTx] at KT
    clear K2 hT hF hQ hI HC hTx hB
    go_wp2_with fail
    refine (KI.out w1 (HT.out.below BB (Nat.le_refl _)) (HE.out.below BB (Nat.le_refl _))).mono ?_
    rintro e w2 ⟨A2, n2, c2, rfl, o2, b2⟩
    replace BB := BB.trans (b2.mono BB.size)
    obtain rfl : L.length = n2 := o2.1
    clear b2
    go_wp2_with fail
    refine (KS.out w2).mono ?_
    rintro e w3 ⟨A3, n3, c3, rfl, o3, b3⟩
    replace BB := BB.trans (b3.mono BB.size)
    replace o2 := o2.below b3 (Nat.le_refl _)
    obtain rfl : L.length = n3 := o3.1
    clear b3
    go_wp2_with fail
    refine (sameLayers_yes (o2.arr LL_length) (o3.arr LL_length) (by omega)).mono ?_
    rintro e w4 ⟨rfl, b4⟩
    replace BB := BB.trans (b4.mono BB.size)
    replace o2 := o2.below b4 (Nat.le_refl _)
    clear b4 o3
    go_wp2_with fail
    refine (K2'.out w4 (HT.out.below BB (Nat.le_refl _)) (HE.out.below BB (Nat.le_refl _))).mono ?_
    rintro e w6 ⟨A6, n6, c6, rfl, o6, b6⟩
    replace BB := BB.trans (b6.mono BB.size)
    replace o2 := o2.below b6 (Nat.le_refl _)
    clear b6 o6
    simp only [Option.isSome_none]
    go_wp2_with fail
    refine (KV.out A2 _ c2 w6 (o2.arr LL_length) (by omega)).mono ?_
    rintro e w7 ⟨rfl, b7⟩
    replace BB := BB.trans (b7.mono BB.size)
    replace o2 := o2.below b7 (Nat.le_refl _)
    clear b7
    go_wp2_with fail
    refine (KT.out A2 _ c2 w7 (o2.arr LL_length) (by omega) (HT.out.below BB (Nat.le_refl _))).mono ?_
    rintro e w8 ⟨rfl, b8⟩
    replace BB := BB.trans (b8.mono BB.size)
    clear b8 o2
    go_wp2
    go_ret
    exact ⟨ret_bool (by simp), BB⟩
end Go.Proofs.YtjbdoohpljffnaaDoor
