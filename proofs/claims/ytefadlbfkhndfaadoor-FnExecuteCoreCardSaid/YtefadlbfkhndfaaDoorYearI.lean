/-
  Contracts: isYear, YearText, YearOf of the program.
-/
import Derived.Test.YtefadlbfkhndfaaDoorPlainX
import Derived.Test.YtefadlbfkhndfaaDoorCurveP
import Derived.Test.YtefadlbfkhndfaaDoorDecI
namespace Go.Proofs.YtefadlbfkhndfaaDoor
open Go.RowKit
set_option linter.unusedSimpArgs false
set_option linter.unusedVariables false

def yearB (y : Int) : Bool := decide (-200000 ≤ y ∧ y ≤ 200000)
theorem isYear_any (x : Int) (r : Bool) (hr : yearB x = r) (w : World) : Calls Tryd.prog 21 #[.int .i64 x] w fun e w' => e = .returned (.bool r) ∧ w = w' := by
  unfold yearB at hr
  rcases (show x < -200000 ∨ (-200000 ≤ x ∧ 200000 < x) ∨ (-200000 ≤ x ∧ x ≤ 200000) by omega) with h | ⟨h, h2⟩ | ⟨h, h2⟩
  · rw [decide_eq_false (by omega)] at hr
    subst hr
    go_enter Tryd.func21, Tryd.ntmps21
    go_wp2
    go_ret
    exact ⟨rfl, rfl⟩
  · rw [decide_eq_false (by omega)] at hr
    subst hr
    go_enter Tryd.func21, Tryd.ntmps21
    go_wp2
    go_ret
    exact ⟨ret_bool (by simp; omega), rfl⟩
  · rw [decide_eq_true (by omega)] at hr
    subst hr
    go_enter Tryd.func21, Tryd.ntmps21
    go_wp2
    go_ret
    exact ⟨ret_bool (by simp; try omega), rfl⟩
theorem l1Year_any (x : Int) (r : Bool) (hr : yearB x = r) (w : World) : Calls Tryd.prog 23 #[.int .i64 x] w fun e w' => e = .returned (.bool r) ∧ w = w' := by
  have C := Lib.hid (l6In_any x (-200000) 200000 r hr)
  clear hr
  go_enter Tryd.func23, Tryd.ntmps23
  go_wp2_with fail
  refine (C.out _).mono ?_
  rintro e w' ⟨rfl, rfl⟩
  go_wp2
  go_ret
  exact ⟨rfl, rfl⟩
theorem yradd_at (a b c : ByteArray) (h : a.size + b.size ≤ 1000000) (hc : a ++ b = c) : ∀ W : World, (Op.stringOp .add a b).run Tryd.prog W = .ok (.string c) W := fun W => by
  rw [← hc]; exact run_string_add_sum (P := Tryd.prog) (w := W) a b (by omega)
theorem dec_sz {u : Nat} (h : u ≤ 10000000) : (tx (Lib.decDigits u)).size ≤ 8 := by rw [tx_size]; exact dec_len 7 u (by omega)

set_option maxHeartbeats 1000000 in
theorem implYearText_any (y : Int) (hy : -1000000000000 ≤ y ∧ y ≤ 1000000000000) (w : World) (hT : Tab w) :
    Calls Tryd.prog 8 #[.int .i64 y] w fun e w' => e = .returned (.string (tx (yearT y))) ∧ Below w.heap.size w w' := by
  obtain ⟨y0, y1⟩ := hy
  have HT := Lib.hid hT
  clear hT
  by_cases hr : -200000 ≤ y ∧ y ≤ 200000
  · have C := Lib.hid (isYear_any y true (by unfold yearB; exact decide_eq_true hr))
    by_cases hp : 0 < y
    · obtain ⟨u, rfl⟩ : ∃ u : Nat, y = u := ⟨y.toNat, by omega⟩
      have hu : u ≤ 10000000 := by omega
      have hE := Lib.hid (show tx (Lib.decDigits u) ++ tx [32, 67, 69] = tx (yearT u) by unfold yearT dec; rw [if_pos hr, if_pos hp, tx_add]; simp)
      have A1 : ∀ W : World, (Op.stringOp .add (tx (Lib.decDigits u)) ⟨#[32, 67, 69]⟩).run Tryd.prog W = .ok (.string (tx (yearT u))) W := yradd_at (tx (Lib.decDigits u)) (tx [32, 67, 69]) _ (by rw [tx_size [32, 67, 69]]; have := dec_sz hu; simp; omega) hE.out
      have K := Lib.hid (itoaB_any u hu w HT.out)
      obtain ⟨T, hTT⟩ : ∃ T, T = tx (yearT u) := ⟨_, rfl⟩
      rw [← hTT] at A1
      have HTT := Lib.hid hTT
      clear hTT hr
      go_enter Tryd.func8, Tryd.ntmps8
      go_wp2_with (first
        | (go_at_call 21; refine (C.out _).mono ?_; rintro e w' ⟨rfl, rfl⟩)
        | (go_at_call 24; refine K.out.mono ?_; rintro e w2 ⟨rfl, b2⟩))
      go_ret
      exact ⟨ret_str HTT.out, b2⟩
    · obtain ⟨u, hu0⟩ : ∃ u : Nat, 1 - y = u := ⟨(1 - y).toNat, by omega⟩
      have hu : u ≤ 10000000 := by omega
      have hE := Lib.hid (show tx (Lib.decDigits u) ++ tx [32, 66, 67, 69] = tx (yearT y) by unfold yearT dec; rw [if_pos hr, if_neg hp, tx_add, hu0]; simp)
      have A1 : ∀ W : World, (Op.stringOp .add (tx (Lib.decDigits u)) ⟨#[32, 66, 67, 69]⟩).run Tryd.prog W = .ok (.string (tx (yearT y))) W := yradd_at (tx (Lib.decDigits u)) (tx [32, 66, 67, 69]) _ (by rw [tx_size [32, 66, 67, 69]]; have := dec_sz hu; simp; omega) hE.out
      have K := Lib.hid (itoaB_any u hu w HT.out)
      obtain ⟨T, hTT⟩ : ∃ T, T = tx (yearT y) := ⟨_, rfl⟩
      rw [← hTT] at A1
      have HTT := Lib.hid hTT
      have e1 : IntKind.i64.wrap (1 - y) = (u : Int) := by rw [hu0]; exact IntWalk.i64_in _ ⟨by omega, by omega⟩
      clear hTT hr
      go_enter Tryd.func8, Tryd.ntmps8
      go_wp2_with (first
        | (go_at_call 21; refine (C.out _).mono ?_; rintro e w' ⟨rfl, rfl⟩)
        | (go_at_call 24; first | (refine K.out.mono ?_; rintro e w2 ⟨rfl, b2⟩) | (rw [hu0]; refine K.out.mono ?_; rintro e w2 ⟨rfl, b2⟩)))
      go_ret
      exact ⟨ret_str HTT.out, b2⟩
  · have C := Lib.hid (isYear_any y false (by unfold yearB; exact decide_eq_false hr))
    have hE := Lib.hid (show yearT y = [] by unfold yearT; rw [if_neg hr])
    clear hr
    go_enter Tryd.func8, Tryd.ntmps8
    go_wp2_with (go_at_call 21; refine (C.out _).mono ?_; rintro e w' ⟨rfl, rfl⟩)
    go_ret
    exact ⟨ret_str (by rw [hE.out]; rfl), Below.refl _ _⟩

/-! ### The year with an age -/
def ofB (a : Int) : Bool := decide (-198000 ≤ a ∧ a ≤ 202000)
def ofY (a : Int) : Int := if ofB a = true then 2000 - a else 0
set_option maxHeartbeats 1000000 in
theorem implYearOf_any (a : Int) (ha : -1000000000000 ≤ a ∧ a ≤ 1000000000000) (w : World) :
    Calls Tryd.prog 6 #[.int .i64 a] w fun e w' => e = .returned (.tuple #[.int .i64 (ofY a), .bool (ofB a)]) ∧ w = w' := by
  obtain ⟨a0, a1⟩ := ha
  have e1 : IntKind.i64.wrap (2000 - a) = 2000 - a := IntWalk.i64_in _ ⟨by omega, by omega⟩
  have C := Lib.hid (fun W => isYear_any (2000 - a) (yearB (2000 - a)) rfl W)
  rcases (show a < -400000 ∨ (-400000 ≤ a ∧ 400000 < a) ∨ (-400000 ≤ a ∧ a ≤ 400000) by omega) with h | ⟨h, h2⟩ | ⟨h, h2⟩
  · have f : ofB a = false := decide_eq_false (by omega)
    have f2 : ofY a = 0 := by unfold ofY; rw [f]; rfl
    rw [f, f2]
    clear f f2
    go_enter Tryd.func6, Tryd.ntmps6
    go_wp2
    go_ret2
    exact ⟨rfl, rfl⟩
  · have f : ofB a = false := decide_eq_false (by omega)
    have f2 : ofY a = 0 := by unfold ofY; rw [f]; rfl
    rw [f, f2]
    clear f f2
    go_enter Tryd.func6, Tryd.ntmps6
    go_wp2
    go_ret2
    exact ⟨rfl, rfl⟩
  · have hB : yearB (2000 - a) = ofB a := by unfold yearB ofB; rw [Bool.eq_iff_iff]; simp; omega
    rw [hB] at C
    unfold ofY
    cases hO : ofB a with
    | false =>
      rw [hO] at C
      clear hB hO
      go_enter Tryd.func6, Tryd.ntmps6
      go_wp2_with (go_at_call 21; refine (C.out _).mono ?_; rintro e w' ⟨rfl, rfl⟩)
      go_ret2
      exact ⟨rfl, rfl⟩
    | true =>
      rw [hO] at C
      clear hB hO
      go_enter Tryd.func6, Tryd.ntmps6
      go_wp2_with (go_at_call 21; refine (C.out _).mono ?_; rintro e w' ⟨rfl, rfl⟩)
      go_ret2
      exact ⟨rfl, rfl⟩
end Go.Proofs.YtefadlbfkhndfaaDoor
