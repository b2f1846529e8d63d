/-
  The walk of the law FnExecuteYear.
-/
import Derived.Test.YtefadlbfkhndfaaDoorExecY
import Derived.Test.YtefadlbfkhndfaaDoorExecute
import Derived.Test.YtefadlbfkhndfaaDoorPlainS3
import Derived.Test.YtefadlbfkhndfaaDoorEndLine
import Derived.Test.YtefadlbfkhndfaaDoorDrawYear
import Derived.Test.YtefadlbfkhndfaaDoorYearOfS
import Derived.Test.YtefadlbfkhndfaaDoorLibS
namespace Go.Proofs.YtefadlbfkhndfaaDoor
open Go.RowKit
set_option linter.unusedSimpArgs false
set_option linter.unusedVariables false

theorem Below.grows {w w' : World} (h : Below w.heap.size w w') (row : Option Nat) : w.grownBy w' row := ⟨h.os, h.tape, h.output, h.size, fun i hi _ => h.block i hi⟩
theorem yearT_len (y : Int) : (yearT y).length ≤ 20 := by
  unfold yearT
  split
  · have h1 : (dec y.toNat).length ≤ 8 := dec_len 7 _ (by omega)
    have h2 : (dec (1 - y).toNat).length ≤ 8 := dec_len 7 _ (by omega)
    split <;> simp <;> omega
  · simp
theorem yearT_ne {y : Int} (h : -200000 ≤ y ∧ y ≤ 200000) : yearT y ≠ [] := by
  unfold yearT
  rw [if_pos h]
  split <;> simp
theorem lineOk_year (s : St) {u : Nat} (hu : u ≤ 999999) : LineOk s [wYear, dec u] := by
  have e : lineX s [wYear, dec u] = (s, yearLine u) := by rw [line_year, dig_decB hu]
  unfold LineOk
  rw [e]
  refine ⟨?_, fun w g k hs hT hgk hk => ?_⟩
  · show (yearLine u).length ≤ 1000
    unfold yearLine
    split
    · have := yearT_len (2000 - u); omega
    · decide
  · refine (exec_year_any g u k hu w hT (Array.getElem?_eq_some_iff.1 hk).1 ((Lib.cell_of_heap hk 0).trans rfl) ((Lib.cell_of_heap hk 1).trans rfl)).mono ?_
    rintro e w' ⟨rfl, b⟩
    refine ⟨_, _, rfl, ?_, hs.below b (Nat.le_refl _), Below.grows b _⟩
    show _ = yearLine u
    unfold yearLine ofY
    by_cases h : (u : Int) ≤ 202000
    · have f : ofB (u : Int) = true := decide_eq_true (by omega)
      rw [f, if_pos rfl, if_pos rfl, if_pos (by omega)]
    · have f : ofB (u : Int) = false := decide_eq_false (by omega)
      rw [f, if_neg (by decide), if_neg (by omega)]
theorem lyxToList (l : List UInt8) : (tx l).toList = l := by unfold tx; exact ByteArray.toList_mk l

set_option maxRecDepth 100000 in
set_option maxHeartbeats 4000000 in
theorem walk_FnExecuteYear (w : World) (A : Option Addr) (n c : Nat) (l : List Int) (h : Arr BB 1 w w.heap.size A n l) (hby : ∀ x ∈ l, 0 ≤ x ∧ x ≤ 255) (hc : n ≤ c) (hT : Tab w) (hE : Errs w) :
    Calls Tryd.prog 3 #[.slice A n c] w fun e w' => e = .returned (.bool true) ∧ Below w.heap.size w w' := by
  have C := Lib.hid (DrawYearOf_any A n c l w h hby hc)
  have HT := Lib.hid hT
  clear hby h hT hE
  by_cases hb : 1048576 < n
  · go_enter Tryd.func3, Tryd.ntmps3
    go_wp2_with fail
    go_ret
    exact ⟨rfl, Below.refl _ _⟩
  go_enter Tryd.func3, Tryd.ntmps3
  go_wp2_with fail
  refine C.out.mono ?_
  rintro e w1 ⟨y, rfl, hy1, hy2, b1⟩
  clear C
  have KI := Lib.hid (fun W => implYearOf_any y ⟨by omega, by omega⟩ W)
  have KS := Lib.hid (fun W => specYearOf_any y ⟨by omega, by omega⟩ W)
  have HT1 := Lib.hid (HT.out.below b1 (Nat.le_refl _))
  cases hO : ofB y with
  | false =>
    rw [hO] at KI KS
    clear hO
    generalize ofY y = Y at KI KS
    have hYY : (Y == Y) = true := by simp
    go_wp2_with (first
      | (go_at_call 6; refine (KI.out _).mono ?_; rintro e w' ⟨rfl, rfl⟩)
      | (go_at_call 7; refine (KS.out _).mono ?_; rintro e w' ⟨rfl, rfl⟩))
    go_ret
    exact ⟨rfl, b1⟩
  | true =>
    have hr : -198000 ≤ y ∧ y ≤ 202000 := by simpa [ofB] using hO
    have hOY : ofY y = 2000 - y := by unfold ofY; rw [hO]; rfl
    rw [hO, hOY] at KI KS
    have YT := Lib.hid (fun W hW => implYearText_any (2000 - y) ⟨by omega, by omega⟩ W hW)
    have hne := yearT_ne (y := 2000 - y) ⟨by omega, by omega⟩
    have hle := yearT_len (2000 - y)
    clear hO hOY
    by_cases hneg : y < 0
    · obtain ⟨S, hS⟩ : ∃ S, S = tx (yearT (2000 - y)) := ⟨_, rfl⟩
      rw [← hS] at YT
      have hne' : S.toList.isEmpty = false := by rw [hS, lyxToList]; simpa using hne
      clear hS hne hle
      obtain ⟨Y, hY⟩ : ∃ Y, Y = 2000 - y := ⟨_, rfl⟩
      rw [← hY] at KI KS YT
      clear hY
      go_wp2_with (first
        | (go_at_call 6; refine (KI.out _).mono ?_; rintro e w' ⟨rfl, rfl⟩)
        | (go_at_call 7; refine (KS.out _).mono ?_; rintro e w' ⟨rfl, rfl⟩)
        | (go_at_call 8; refine (YT.out _ HT1.out).mono ?_; rintro e w2 ⟨rfl, b2⟩))
      go_ret
      exact ⟨ret_bool (by simp), b1.trans (b2.mono b1.size)⟩
    · obtain ⟨u, rfl⟩ : ∃ u : Nat, y = u := ⟨y.toNat, by omega⟩
      have hu : u ≤ 202000 := by omega
      have DG := Lib.hid (fun W => digits_any u W (by omega))
      have hX := exec_year hu
      have hd6 : (Lib.decDigits u).length ≤ 6 := dec_len 5 u (by omega)
      have hln : linesX ((wYear ++ 32 :: dec u) ++ [10]) = [wYear ++ 32 :: dec u] := by
        have := linesX_add (r := []) (w := wYear ++ 32 :: dec u) (.inl rfl) (no10_one (by decide) u)
        simpa [linesX_nil] using this
      have EX := Lib.hid (fun W hW => implExecute_any ((wYear ++ 32 :: dec u) ++ [10]) (by simp [wYear, dec]; omega) W hW (by
        rw [hln]
        intro j x hx
        cases j with
        | zero =>
          injection hx with hx
          subst hx
          rw [ws_one (by decide) u]
          exact lineOk_year _ (by omega)
        | succ j => simp at hx) (by rw [hln, run_1, ws_one (by decide) u, line_year]; exact ⟨Nat.zero_le 10000, Nat.zero_le 10000⟩))
      rw [hX] at EX
      have EL := Lib.hid (fun W => endLine_any 0 0 st0 rfl rfl (by omega) (by omega) W)
      have a0 : (ByteArray.mk #[121, 101, 97, 114, 32]) ++ tx (Lib.decDigits u) = tx (wYear ++ 32 :: dec u) := by
        show tx [121, 101, 97, 114, 32] ++ tx _ = _
        rw [tx_add]; rfl
      have a1 : tx (wYear ++ 32 :: dec u) ++ (ByteArray.mk #[10]) = tx ((wYear ++ 32 :: dec u) ++ [10]) := by
        show _ ++ tx [10] = _
        rw [tx_add]
      have zt : (tx (wYear ++ 32 :: dec u)).size ≤ 20 := by rw [tx_size]; simp [wYear, dec]; omega
      have A0 := add_at _ _ _ (by rw [tx_size]; show 5 + _ ≤ 1000000; omega) a0
      have A1 := add_at _ _ _ (by show _ + 1 ≤ 1000000; omega) a1
      have a2 : tx (yearT (2000 - (u : Int))) ++ (ByteArray.mk #[10]) = tx (yearT (2000 - (u : Int)) ++ [10]) := by
        show _ ++ tx [10] = _
        rw [tx_add]
      have A2 := add_at _ _ _ (by rw [tx_size]; show _ + 1 ≤ 1000000; omega) a2
      have a3 : tx (yearT (2000 - (u : Int)) ++ [10]) ++ tx (endT st0) = tx ((yearT (2000 - (u : Int)) ++ [10]) ++ endT st0) := tx_add _ _
      have ez : (endT st0).length ≤ 100 := by have := endT_len st0 (Nat.zero_le 10000) (Nat.zero_le 10000); omega
      have A3 := add_at _ _ _ (by rw [tx_size, tx_size]; simp; omega) a3
      obtain ⟨D, hD⟩ : ∃ D, D = tx (Lib.decDigits u) := ⟨_, rfl⟩
      obtain ⟨D1, hD1⟩ : ∃ D, D = tx (wYear ++ 32 :: dec u) := ⟨_, rfl⟩
      obtain ⟨D2, hD2⟩ : ∃ D, D = tx ((wYear ++ 32 :: dec u) ++ [10]) := ⟨_, rfl⟩
      obtain ⟨Y0, hY0⟩ : ∃ D, D = tx (yearT (2000 - (u : Int))) := ⟨_, rfl⟩
      obtain ⟨Y1, hY1⟩ : ∃ D, D = tx (yearT (2000 - (u : Int)) ++ [10]) := ⟨_, rfl⟩
      obtain ⟨Y2, hY2⟩ : ∃ D, D = tx ((yearT (2000 - (u : Int)) ++ [10]) ++ endT st0) := ⟨_, rfl⟩
      obtain ⟨E0, hE0⟩ : ∃ D, D = tx (endT st0) := ⟨_, rfl⟩
      rw [← hD] at DG A0
      rw [← hD1] at A0 A1
      rw [← hD2] at A1 EX
      rw [← hY2] at EX A3
      rw [← hY1] at A2 A3
      rw [← hY0] at YT A2
      rw [← hE0] at EL A3
      have hu0 : (0 : Int) ≤ (u : Int) := by omega
      clear hne hle hX hln a0 a1 zt a2 a3 ez hD hD1 hD2 hY0 hY1 hY2 hE0 hd6
      obtain ⟨Y, hY⟩ : ∃ Y : Int, Y = 2000 - (u : Int) := ⟨_, rfl⟩
      rw [← hY] at KI KS YT
      clear hY
      go_wp2_with (first
        | (go_at_call 6; refine (KI.out _).mono ?_; rintro e w' ⟨rfl, rfl⟩)
        | (go_at_call 7; refine (KS.out _).mono ?_; rintro e w' ⟨rfl, rfl⟩)
        | (go_at_call 10; refine (DG.out _).mono ?_; rintro e w2 ⟨rfl, b2⟩; have B2 := b1.trans (b2.mono b1.size); have H2 := Lib.hid (HT.out.below B2 (Nat.le_refl _)))
        | (go_at_call 9; refine (EX.out _ H2.out).mono ?_; rintro e w3 ⟨rfl, b3⟩; have B3 := B2.trans (b3.mono B2.size); have H3 := Lib.hid (HT.out.below B3 (Nat.le_refl _)))
        | (go_at_call 8; refine (YT.out _ H3.out).mono ?_; rintro e w4 ⟨rfl, b4⟩; have B4 := B3.trans (b4.mono B3.size))
        | (go_at_call 11; refine (EL.out _).mono ?_; rintro e w5 ⟨rfl, b5⟩; have B5 := B4.trans (b5.mono B4.size)))
      go_ret
      exact ⟨ret_bool (by simp), B5⟩
end Go.Proofs.YtefadlbfkhndfaaDoor
