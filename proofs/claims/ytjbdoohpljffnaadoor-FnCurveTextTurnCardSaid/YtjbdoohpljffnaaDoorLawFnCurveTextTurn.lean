/-
  The walk of the law FnCurveTextTurn.
-/
import Derived.Test.YtjbdoohpljffnaaDoorCurveTurn
import Derived.Test.YtjbdoohpljffnaaDoorDrawCv
namespace Go.Proofs.YtjbdoohpljffnaaDoor
open Go.RowKit
set_option linter.unusedSimpArgs false
set_option linter.unusedVariables false

theorem cvToList (l : List UInt8) : (tx l).toList = l := by unfold tx; exact ByteArray.toList_mk l

set_option maxRecDepth 100000 in
set_option maxHeartbeats 2000000 in
theorem walk_FnCurveTextTurn (w : World) (A : Option Addr) (n c : Nat) (l : List Int) (h : Arr BB 1 w w.heap.size A n l) (hby : ∀ x ∈ l, 0 ≤ x ∧ x ≤ 255) (hc : n ≤ c) (hT : Tab w) :
    Calls Tryd.prog 4 #[.slice A n c] w fun e w' => e = .returned (.bool true) ∧ Below w.heap.size w w' := by
  have C := Lib.hid (DrawCurveText_any A n c l w h hby hc)
  have HT := Lib.hid hT
  clear hby h hT
  by_cases hb : 1048576 < n
  · go_enter Tryd.func4, Tryd.ntmps4
    go_wp2_with fail
    go_ret
    exact ⟨rfl, Below.refl _ _⟩
  go_enter Tryd.func4, Tryd.ntmps4
  go_wp2_with fail
  refine C.out.mono ?_
  rintro e w1 ⟨A1, n1, c1, L, rfl, o1, hn1, b1⟩
  clear C
  have a1 := o1.arr PP_length
  have T1 := HT.out.below b1 (Nat.le_refl _)
  have KI0 := implCurveText_any A1 n1 c1 L w1 a1 (by omega) T1
  have KS0 := fun W h => specCurveText_any A1 n1 c1 L W h (by omega)
  have KC := Lib.hid (fun W h hB => implCurveTurn_any A1 n1 c1 L W h (by omega) hB)
  have KT0 := fun (A2 : Option Addr) (c2 : Nat) W h hT => implCurveText_any A2 n1 c2 (turnT L) W h (by omega) hT
  have hbad := Lib.hid (fun (h : curveB L = false) => show curveT L = [] by unfold curveT; rw [h]; rfl)
  have hlen := curveT_turn L
  generalize curveT L = T at *
  generalize curveT (turnT L) = U at *
  obtain ⟨S, hS⟩ : ∃ S, S = tx T := ⟨_, rfl⟩
  obtain ⟨V, hV⟩ : ∃ S, S = tx U := ⟨_, rfl⟩
  rw [← hS] at KI0
  rw [← hS] at KS0
  rw [← hV] at KT0
  have KI := Lib.hid KI0
  have KS := Lib.hid KS0
  have KT := Lib.hid KT0
  have hsz : V.size = S.size := by rw [hS, hV, tx_size, tx_size, hlen]
  have hSt := Lib.hid (show S.toList = T by rw [hS, cvToList])
  clear o1 HT KI0 KS0 KT0 hS hV hlen
  go_wp2_with fail
  refine KI.out.mono ?_
  rintro e w2 ⟨rfl, b2⟩
  have a2 := (a1.below' b2).more b2.size
  have T2 := T1.below b2 (Nat.le_refl _)
  have B2 := b1.trans (b2.mono b1.size)
  clear a1 T1 b1 b2 KI
  go_wp2_with fail
  refine (KS.out w2 a2).mono ?_
  rintro e w3 ⟨rfl, b3⟩
  have a3 := (a2.below' b3).more b3.size
  have T3 := T2.below b3 (Nat.le_refl _)
  have B3 := B2.trans (b3.mono B2.size)
  clear a2 T2 B2 b3 KS
  by_cases hE : T = []
  · have f0 : S.toList.isEmpty = true := by rw [hSt.out, hE]; rfl
    clear hSt hbad hE KC KT hsz
    go_wp2
    go_ret
    exact ⟨rfl, B3⟩
  · have hne' : S.toList.isEmpty = false := by rw [hSt.out]; simpa using hE
    have hB : curveB L = true := by
      cases hB : curveB L with
      | true => rfl
      | false => exact absurd (hbad.out hB) hE
    have KC' := Lib.hid (KC.out w3 a3 hB)
    have Hsz := Lib.hid hsz
    clear hSt hbad hE KC hB hsz
    go_wp2_with fail
    refine KC'.out.mono ?_
    rintro e w4 ⟨A2, c2, rfl, o2, b4⟩
    have a4 := o2.arr PP_length
    have T4 := T3.below b4 (Nat.le_refl _)
    have B4 := B3.trans (b4.mono B3.size)
    have KT' := Lib.hid (KT.out A2 c2 w4 a4 T4)
    clear o2 b4 a4 T4 T3 a3 B3 KC' KT
    go_wp2_with fail
    refine KT'.out.mono ?_
    rintro e w5 ⟨rfl, b5⟩
    have B5 := B4.trans (b5.mono B4.size)
    have hsz := Hsz.out
    clear b5 B4 KT'
    go_wp2
    go_ret
    exact ⟨ret_bool (by simp [hsz]), B5⟩
end Go.Proofs.YtjbdoohpljffnaaDoor
