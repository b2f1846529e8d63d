/-
  Contracts: the reference's l42Place and l6In.
-/
import Derived.Test.YtjhbpilgejbmjaaCore
namespace Go.Proofs.Ytjhbpilgejbmjaa
open Go.RowKit
set_option linter.unusedSimpArgs false
set_option linter.unusedVariables false

def placeI : Option (Nat × Int) → Int
  | none => -1
  | some q => q.1
def placeD : Option (Nat × Int) → Int
  | none => 0
  | some q => q.2

set_option maxHeartbeats 1000000 in
theorem l42Place_any (A : Option Addr) (n c k : Nat) (d width : Int) (l : List Pc) (w : World) (h : Arr PP 2 w w.heap.size A n l) (hn : n ≤ 20) (hF : coreFrom 0 l = true) (hk : k ≤ n) (hd : 0 ≤ d ∧ d ≤ 100000) (hw : 1 ≤ width ∧ width ≤ 1000) :
    Calls Try.prog 46 #[.slice A n c, .int .i64 k, .int .i64 d, .int .i64 width] w fun e w' => e = .returned (.tuple #[.int .i64 (placeI (placeL width (l.drop k) d k)), .int .i64 (placeD (placeL width (l.drop k) d k))]) ∧ w = w' := by
  have hln := Lib.hid h.1
  have hF' := Lib.hid hF
  obtain ⟨d0, d1⟩ := hd
  obtain ⟨w1l, w1h⟩ := hw
  clear hF
  go_enter Try.func46, Try.ntmps46
  go_wp2
  go_loop [1] (fun i => ∃ j : Nat, j ≤ n ∧ i = .int .i64 j ∧ placeL width (l.drop j) d j = placeL width (l.drop k) d k) (fun i => n - (intOf i).toNat)
  case atStart => exact ⟨k, hk, rfl, rfl⟩
  case round =>
    obtain ⟨j, hj, rfl, hp⟩ := hrel
    have hp' := Lib.hid hp
    clear hp
    by_cases hlt : j < n
    · obtain ⟨b, off, x, y, rfl, hbB, hx, c1, c2⟩ := h.pair hlt
      have hm := coreFrom_mem hF'.out _ (List.mem_of_getElem? hx)
      have m0 : (0 : Int) ≤ x := hm.1
      have m1 : x < y := hm.2.1
      have m2 : y ≤ 30000 := hm.2.2
      have hE := Lib.hid (drop_cons hx)
      clear hm hx
      by_cases hdx : x ≤ d
      · by_cases hfit : d + width ≤ y
        · have hr : placeL width (l.drop k) d k = some (j, d) := by
            rw [← hp'.out, hE.out, placeL, if_pos (by show max d x + width ≤ y; omega)]
            simp only [Option.some.injEq, Prod.mk.injEq, true_and]; omega
          have hr' := Lib.hid hr
          clear hr
          go_wp2
          all_goals
            go_ret2
            exact ⟨by rw [hr'.out]; first | rfl | (simp only [placeI, placeD]; congr 3; omega), rfl⟩
        · have hr : placeL width (l.drop (j + 1)) d (j + 1) = placeL width (l.drop k) d k := by
            rw [← hp'.out, hE.out, placeL, if_neg (by show ¬ max d x + width ≤ y; omega)]
          have hr' := Lib.hid hr
          clear hr
          go_wp2
          all_goals
            go_round
            case rel => exact ⟨j + 1, by omega, by go_num, hr'.out⟩
            case measure => simp [intOf]; omega
      · by_cases hfit : x + width ≤ y
        · have hr : placeL width (l.drop k) d k = some (j, x) := by
            rw [← hp'.out, hE.out, placeL, if_pos (by show max d x + width ≤ y; omega)]
            simp only [Option.some.injEq, Prod.mk.injEq, true_and]; omega
          have hr' := Lib.hid hr
          clear hr
          have hdx' : d ≤ x := by omega
          go_wp2
          all_goals
            go_ret2
            exact ⟨by rw [hr'.out]; first | rfl | (simp only [placeI, placeD]; congr 3; omega), rfl⟩
        · have hr : placeL width (l.drop (j + 1)) d (j + 1) = placeL width (l.drop k) d k := by
            rw [← hp'.out, hE.out, placeL, if_neg (by show ¬ max d x + width ≤ y; omega)]
          have hr' := Lib.hid hr
          clear hr
          have hdx' : d ≤ x := by omega
          go_wp2
          all_goals
            go_round
            case rel => exact ⟨j + 1, by omega, by go_num, hr'.out⟩
            case measure => simp [intOf]; omega
    · have hr : placeL width (l.drop k) d k = none := by
        rw [← hp'.out, drop_end (by rw [hln.out]; omega)]
        rfl
      have hr' := Lib.hid hr
      clear hr
      go_wp2
      go_ret2
      exact ⟨by rw [hr'.out]; rfl, rfl⟩

theorem nle_of {a b : Int} (h : (!decide (a ≤ b)) = false) : a ≤ b := by simpa using h
theorem l6In_yes (x a b : Int) (w : World) (h1 : a ≤ x) (h2 : x ≤ b) : Calls Try.prog 45 #[.int .i64 x, .int .i64 a, .int .i64 b] w fun e w' => e = .returned (.bool true) ∧ w = w' := by
  go_enter Try.func45, Try.ntmps45
  go_wp2
  go_ret
  exact ⟨rfl, rfl⟩

end Go.Proofs.Ytjhbpilgejbmjaa
