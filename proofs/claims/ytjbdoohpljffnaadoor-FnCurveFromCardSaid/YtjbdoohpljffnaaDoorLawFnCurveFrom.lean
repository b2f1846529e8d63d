/-
  The walk of the law FnCurveFrom.
-/
import Derived.Test.YtjbdoohpljffnaaDoorCurveFromI
import Derived.Test.YtjbdoohpljffnaaDoorCurveFromS
import Derived.Test.YtjbdoohpljffnaaDoorDrawFrom
import Derived.Test.YtjbdoohpljffnaaDoorSameKn
namespace Go.Proofs.YtjbdoohpljffnaaDoor
open Go.RowKit
set_option linter.unusedSimpArgs false
set_option linter.unusedVariables false

theorem fromC_short12 (s : List UInt8) : ((fromC s).getD []).length ≤ 12 := by
  cases h : fromC s with
  | none => simp
  | some l => exact ((curveB_iff l).1 (fromC_is h).1).2.2
theorem IsC.tail {s : List UInt8} {l : List Pc} (h : IsC s l) : ∃ x d, s = (x ++ [d]) ++ [10] ∧ d ≠ 10 := by
  have hl := h.ne
  obtain ⟨l', p, rfl⟩ : ∃ l' p, l = l' ++ [p] := ⟨_, _, (List.dropLast_concat_getLast hl).symm⟩
  obtain ⟨y, d, hd⟩ : ∃ y d, Lib.decDigits p.2.toNat = y ++ [d] := ⟨_, _, (List.dropLast_concat_getLast (dec_ne _)).symm⟩
  refine ⟨knotsT l' ++ Lib.decDigits p.1.toNat ++ 32 :: y, d, ?_, fun e => ?_⟩
  · rw [← h.2]
    unfold knotsT
    rw [List.flatMap_append]
    simp [knT, hd]
  · have := dec_mem p.2.toNat d (by rw [hd]; simp)
    rw [e] at this
    revert this
    decide
theorem fromC_cutoff {s : List UInt8} {l : List Pc} (h : IsC s l) : fromC (s.take (s.length - 1)) = none := fromC_none fun l' h' => by
  obtain ⟨x, d, e, hd⟩ := h.tail
  rw [e, List.length_append, List.length_singleton, Nat.add_sub_cancel, List.take_left] at h'
  obtain ⟨z, hz⟩ := knotsT_end h'.ne
  rw [h'.2] at hz
  have := congrArg List.getLast? hz
  simp at this
  exact hd this
theorem fromC_space (s : List UInt8) : fromC (s ++ [32]) = none := fromC_none fun l' h' => by
  obtain ⟨z, hz⟩ := knotsT_end h'.ne
  rw [h'.2] at hz
  have := congrArg List.getLast? hz
  simp at this

set_option maxRecDepth 100000 in
set_option maxHeartbeats 2000000 in
theorem walk_FnCurveFrom (w : World) (A : Option Addr) (n c : Nat) (l : List Int) (h : Arr BB 1 w w.heap.size A n l) (hby : ∀ x ∈ l, 0 ≤ x ∧ x ≤ 255) (hc : n ≤ c) (hT : Tab w) (hE : Errs w) :
    Calls Tryd.prog 14 #[.slice A n c] w fun e w' => e = .returned (.bool true) ∧ Below w.heap.size w w' := by
  have C := Lib.hid (DrawCurveFrom_any A n c l w h hby hc)
  have HT := Lib.hid hT
  have HE := Lib.hid hE
  clear hby h hT hE
  by_cases hb : 1048576 < n
  · go_enter Tryd.func14, Tryd.ntmps14
    go_wp2_with fail
    go_ret
    exact ⟨rfl, Below.refl _ _⟩
  go_enter Tryd.func14, Tryd.ntmps14
  go_wp2_with fail
  refine C.out.mono ?_
  rintro e w1 ⟨S, rfl, hSz, BB⟩
  clear C
  obtain ⟨s, rfl⟩ : ∃ s, S = tx s := ⟨S.data.toList, by cases S; rfl⟩
  have hz := tx_size s
  have KI := Lib.hid (fun W hT hE => implCurveFrom_any s (by omega) W hT hE)
  have KS := Lib.hid (fun W => specCurveFrom_any s (by omega) W)
  have hL := fromC_short12 s
  cases hF : fromC s with
  | none =>
    rw [hF] at KI KS
    clear hL hF
    go_wp2_with fail
    refine (KI.out w1 (HT.out.below BB (Nat.le_refl _)) (HE.out.below BB (Nat.le_refl _))).mono ?_
    rintro e w2 ⟨A2, n2, c2, rfl, o2, b2⟩
    replace BB := BB.trans (b2.mono BB.size)
    clear b2
    go_wp2_with fail
    refine (KS.out w2).mono ?_
    rintro e w3 ⟨A3, n3, c3, rfl, o3, b3⟩
    replace BB := BB.trans (b3.mono BB.size)
    replace o2 := o2.below b3 (Nat.le_refl _)
    obtain rfl : 0 = n2 := o2.1
    obtain rfl : 0 = n3 := o3.1
    clear b3
    simp only [Option.isSome_none]
    go_wp2_with (go_at_call 36; refine (sameKnots_yes (o2.arr PP_length) (o3.arr PP_length) (by omega)).mono ?_; rintro e w4 ⟨rfl, b4⟩; replace BB := BB.trans (b4.mono BB.size); replace o2 := o2.below b4 (Nat.le_refl _); replace o3 := o3.below b4 (Nat.le_refl _); clear b4)
    go_ret
    exact ⟨rfl, BB⟩
  | some L =>
    have hI := fromC_is hF
    have HC := hI
    rw [hF] at KI KS hL
    simp only [Option.getD_some, Option.isSome_some] at KI KS hL
    have hP := fromC_cutoff hI
    have hQ := fromC_space s
    have hs1 : 1 ≤ s.length := by obtain ⟨x, d, e, _⟩ := hI.tail; rw [e]; simp
    have K1 := fun W hT hE => implCurveFrom_any (s.take (s.length - 1)) (by rw [List.length_take]; omega) W hT hE
    have K2 := fun W hT hE => implCurveFrom_any (s ++ [32]) (by simp; omega) W hT hE
    rw [hP] at K1
    rw [hQ] at K2
    have hB := hI.1
    have hTx : curveT L = s := by unfold curveT; rw [if_pos hB, hI.2]
    obtain ⟨T, hT⟩ : ∃ T, T = tx s ++ tx [32] := ⟨_, rfl⟩
    have AT : ∀ W : World, (Op.stringOp .add (tx s) ⟨#[32]⟩).run Tryd.prog W = .ok (.string T) W := knadd_at (tx s) (tx [32]) T (by rw [tx_size [32]]; simp; omega) hT.symm
    rw [show tx (s ++ [32]) = T by rw [hT, tx_add]] at K2
    have hX : tx (s.take (s.length - 1)) = (tx s).extract 0 (s.length - 1) := by rw [txdx]; simp
    rw [hX] at K1
    have K1' := Lib.hid K1
    have K2' := Lib.hid K2
    have KV := Lib.hid (fun (A0 : Option Addr) n0 c0 W h => implCurveValid_any A0 n0 c0 L W h)
    have KT := Lib.hid (fun (A0 : Option Addr) n0 c0 W h => implCurveText_any A0 n0 c0 L W h)
    rw [hB] at KV
    rw [hTx] at KT
    obtain ⟨m, hm⟩ : ∃ m, s.length = m + 1 := ⟨s.length - 1, by omega⟩
    rw [hm] at hz K1'
    simp only [Nat.add_sub_cancel] at K1'
    have e2 : IntKind.i64.wrap (((m + 1 : Nat) : Int) - 1) = (m : Int) := by rw [show ((m + 1 : Nat) : Int) - 1 = (m : Int) by omega]; exact IntWalk.i64_in _ ⟨by omega, by omega⟩
    have i2 : (0 : Int) ≤ (m : Int) := by omega
    have i3 : m ≤ m + 1 := by omega
    clear K1 K2 hT hX hF hP hQ hI HC hTx hB hm
    go_wp2_with fail
    refine (KI.out w1 (HT.out.below BB (Nat.le_refl _)) (HE.out.below BB (Nat.le_refl _))).mono ?_
    rintro e w2 ⟨A2, n2, c2, rfl, o2, b2⟩
    replace BB := BB.trans (b2.mono BB.size)
    obtain rfl : L.length = n2 := o2.1
    clear b2
    go_wp2_with fail
    refine (KS.out w2).mono ?_
    rintro e w3 ⟨A3, n3, c3, rfl, o3, b3⟩
    replace BB := BB.trans (b3.mono BB.size)
    replace o2 := o2.below b3 (Nat.le_refl _)
    obtain rfl : L.length = n3 := o3.1
    clear b3
    go_wp2_with fail
    refine (sameKnots_yes (o2.arr PP_length) (o3.arr PP_length) (by omega)).mono ?_
    rintro e w4 ⟨rfl, b4⟩
    replace BB := BB.trans (b4.mono BB.size)
    replace o2 := o2.below b4 (Nat.le_refl _)
    clear b4 o3
    go_wp2_with fail
    refine (K1'.out w4 (HT.out.below BB (Nat.le_refl _)) (HE.out.below BB (Nat.le_refl _))).mono ?_
    rintro e w5 ⟨A5, n5, c5, rfl, o5, b5⟩
    replace BB := BB.trans (b5.mono BB.size)
    replace o2 := o2.below b5 (Nat.le_refl _)
    clear b5 o5
    go_wp2_with fail
    refine (K2'.out w5 (HT.out.below BB (Nat.le_refl _)) (HE.out.below BB (Nat.le_refl _))).mono ?_
    rintro e w6 ⟨A6, n6, c6, rfl, o6, b6⟩
    replace BB := BB.trans (b6.mono BB.size)
    replace o2 := o2.below b6 (Nat.le_refl _)
    clear b6 o6
    simp only [Option.isSome_none]
    go_wp2_with fail
    refine (KV.out A2 _ c2 w6 (o2.arr PP_length) (by omega)).mono ?_
    rintro e w7 ⟨rfl, b7⟩
    replace BB := BB.trans (b7.mono BB.size)
    replace o2 := o2.below b7 (Nat.le_refl _)
    clear b7
    go_wp2_with fail
    refine (KT.out A2 _ c2 w7 (o2.arr PP_length) (by omega) (HT.out.below BB (Nat.le_refl _))).mono ?_
    rintro e w8 ⟨rfl, b8⟩
    replace BB := BB.trans (b8.mono BB.size)
    clear b8 o2
    go_wp2
    go_ret
    exact ⟨ret_bool (by simp), BB⟩
end Go.Proofs.YtjbdoohpljffnaaDoor
