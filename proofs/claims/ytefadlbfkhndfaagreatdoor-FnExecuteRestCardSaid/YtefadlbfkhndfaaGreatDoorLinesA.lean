/-
  Lines of any words that execute is known at: piece, join, core, length, count, age, year, and a line that is not known.
-/
import Derived.Test.YtefadlbfkhndfaaGreatDoorExecYA
import Derived.Test.YtefadlbfkhndfaaGreatDoorExecPA
import Derived.Test.YtefadlbfkhndfaaGreatDoorGL
import Derived.Test.YtefadlbfkhndfaaGreatDoorExecWA
import Derived.Test.YtefadlbfkhndfaaGreatDoorGH
import Derived.Test.YtefadlbfkhndfaaGreatDoorGJ
import Derived.Test.YtefadlbfkhndfaaGreatDoorGD
import Derived.Test.YtefadlbfkhndfaaGreatDoorGC
namespace Go.Proofs.YtefadlbfkhndfaaGreatDoor
open Go.RowKit
set_option linter.unusedSimpArgs false
set_option linter.unusedVariables false

theorem dec6 {u : Nat} (h : u ≤ 1000000) : (dec u).length ≤ 7 := dec_len 6 u (by omega)
theorem yearT_len (y : Int) : (yearT y).length ≤ 20 := by
  unfold yearT
  split
  · split
    · have := dec6 (u := y.toNat) (by omega); simp; omega
    · have := dec6 (u := (1 - y).toNat) (by omega); simp; omega
  · simp
theorem yearLine_len (y : Int) : (yearLine y).length ≤ 20 := by
  unfold yearLine
  split
  · exact yearT_len _
  · decide
theorem year_pos {x : Int} (h0 : 0 ≤ x) : (if ofB x = true then yearT (ofY x) else noT) = yearLine x := by
  unfold yearLine ofY
  by_cases h : x ≤ 202000
  · have e : ofB x = true := decide_eq_true (by omega)
    rw [e, if_pos rfl, if_pos rfl, if_pos ⟨h0, h⟩]
  · have e : ofB x = false := decide_eq_false (by omega)
    rw [e, if_neg (by decide), if_neg (by omega)]
theorem lineOk_yearA {s : St} {a : List UInt8} (ha : a.length ≤ 1000000) : LineOk s [wYear, a] := by
  unfold LineOk
  rw [line_year]
  refine ⟨by have := yearLine_len (dig a); show (yearLine (dig a)).length ≤ 1000; omega, fun w g k hs hT hE hgk hk => ?_⟩
  by_cases h0 : 0 ≤ dig a
  · refine (exec_year_pos g k a ha s w hs hT hE (Array.getElem?_eq_some_iff.1 hk).1 ((Lib.cell_of_heap hk 0).trans rfl) ((Lib.cell_of_heap hk 1).trans rfl) h0).mono ?_
    rintro e w' ⟨rfl, b⟩
    exact ⟨_, _, rfl, year_pos h0, hs.below b (Nat.le_refl _), grows2 b _⟩
  · refine (exec_year_neg g k a ha s w hs hT hE (Array.getElem?_eq_some_iff.1 hk).1 ((Lib.cell_of_heap hk 0).trans rfl) ((Lib.cell_of_heap hk 1).trans rfl) (by omega)).mono ?_
    rintro e w' ⟨rfl, b⟩
    refine ⟨_, _, rfl, ?_, hs.below b (Nat.le_refl _), grows2 b _⟩
    show noT = yearLine (dig a)
    unfold yearLine
    rw [if_neg (by omega)]
theorem lineOk_pieceA {s : St} {a b : List UInt8} (ha : a.length ≤ 1000000) (hb : b.length ≤ 1000000) (hl : s.core.length ≤ 900) : LineOk s [wPiece, a, b] := by
  unfold LineOk
  rw [line_piece]
  unfold addPiece
  cases hC : coreB (s.core ++ [(dig a, dig b)]) with
  | true =>
    rw [if_pos rfl]
    refine ⟨by show okT.length ≤ 1000; decide, fun w g k hs hT hE hgk hk => ?_⟩
    refine (exec_pieceA_yes g k a ha b hb s w hs hl hT hE (Array.getElem?_eq_some_iff.1 hk).1 ((Lib.cell_of_heap hk 0).trans rfl) ((Lib.cell_of_heap hk 1).trans rfl) ((Lib.cell_of_heap hk 2).trans rfl) hC).mono ?_
    rintro e w' ⟨rfl, h1, h2⟩
    exact ⟨_, _, rfl, rfl, h1, h2⟩
  | false =>
    rw [if_neg (by decide)]
    refine ⟨by show noT.length ≤ 1000; decide, fun w g k hs hT hE hgk hk => ?_⟩
    refine (exec_pieceA_no g k a ha b hb s w hs hl hT hE (Array.getElem?_eq_some_iff.1 hk).1 ((Lib.cell_of_heap hk 0).trans rfl) ((Lib.cell_of_heap hk 1).trans rfl) ((Lib.cell_of_heap hk 2).trans rfl) hC).mono ?_
    rintro e w' ⟨rfl, h1, h2⟩
    exact ⟨_, _, rfl, rfl, h1, h2⟩
theorem lineOk_joinA {s : St} (hC : coreB s.core = true) : LineOk s [wJoin] := by
  have h20 := ((coreB_iff _).1 hC).2
  unfold LineOk
  rw [line_join, if_pos hC]
  refine ⟨by show okT.length ≤ 1000; decide, fun w g k hs hT hE hgk hk => ?_⟩
  refine (exec_join_yes g k s w hs (by omega) hC (Array.getElem?_eq_some_iff.1 hk).1 ((Lib.cell_of_heap hk 0).trans rfl)).mono ?_
  rintro e w' ⟨rfl, h1, h2⟩
  exact ⟨_, _, rfl, rfl, h1, h2⟩
theorem lineOk_coreA {s : St} (hl : s.core.length ≤ 900) : LineOk s [wCore] := by
  unfold LineOk
  rw [line_core]
  refine ⟨by have := coreT_len s.core; show (coreT s.core).length ≤ 1000; omega, fun w g k hs hT hE hgk hk => ?_⟩
  refine (exec_core_any g k s w hs (by omega) hT (Array.getElem?_eq_some_iff.1 hk).1 ((Lib.cell_of_heap hk 0).trans rfl)).mono ?_
  rintro e w' ⟨rfl, b⟩
  exact ⟨_, _, rfl, rfl, hs.below b (Nat.le_refl _), grows2 b _⟩
theorem lineOk_lengthA {s : St} (hC : coreB s.core = true) : LineOk s [wLength] := by
  obtain ⟨hF, h20⟩ := (coreB_iff _).1 hC
  have hbd := lenOf_bd' hF
  obtain ⟨u, hu⟩ : ∃ u : Nat, coreLen s.core = (u : Int) := ⟨(lenOf s.core).toNat, by rw [coreLen_good hC]; omega⟩
  have hu3 : u ≤ 30000 := by rw [coreLen_good hC] at hu; omega
  unfold LineOk
  rw [line_length, hu]
  refine ⟨by have h : (dec u).length ≤ 8 := dec_len 7 u (by omega); show (dec u).length ≤ 1000; omega, fun w g k hs hT hE hgk hk => ?_⟩
  refine (exec_length_any g k u s w hs (by omega) hu (by omega) hT (Array.getElem?_eq_some_iff.1 hk).1 ((Lib.cell_of_heap hk 0).trans rfl)).mono ?_
  rintro e w' ⟨rfl, b⟩
  exact ⟨_, _, rfl, rfl, hs.below b (Nat.le_refl _), grows2 b _⟩
theorem lineOk_countA {s : St} {a b : List UInt8} (ha : a.length ≤ 1000000) (hb : b.length ≤ 1000000) (hl : s.lays.length ≤ 900) : LineOk s [wCount, a, b] := by
  unfold LineOk
  rw [line_count]
  refine ⟨twoT_len (countL_bd s.lays _ _ (by omega)), fun w g k hs hT hE hgk hk => ?_⟩
  refine (exec_countA g k a ha b hb s w hs hl hT hE (Array.getElem?_eq_some_iff.1 hk).1 ((Lib.cell_of_heap hk 0).trans rfl) ((Lib.cell_of_heap hk 1).trans rfl) ((Lib.cell_of_heap hk 2).trans rfl) trivial).mono ?_
  rintro e w' ⟨rfl, b⟩
  exact ⟨_, _, rfl, twoT_if _, hs.below b (Nat.le_refl _), grows2 b _⟩
theorem lineOk_ageA {s : St} {a : List UInt8} (ha : a.length ≤ 1000000) (hl : s.lays.length ≤ 900) : LineOk s [wAge, a] := by
  unfold LineOk
  rw [line_age]
  refine ⟨twoT_len (countL_bd s.lays _ _ (by omega)), fun w g k hs hT hE hgk hk => ?_⟩
  refine (exec_ageA g k a ha s w hs hl hT hE (Array.getElem?_eq_some_iff.1 hk).1 ((Lib.cell_of_heap hk 0).trans rfl) ((Lib.cell_of_heap hk 1).trans rfl) trivial).mono ?_
  rintro e w' ⟨rfl, b⟩
  exact ⟨_, _, rfl, twoT_if _, hs.below b (Nat.le_refl _), grows2 b _⟩
theorem lineOk_what {s : St} {c : List UInt8} {r : List (List UInt8)} (hc : c.length ≤ 1000000) (hr : r.length ≤ 900000) (h : ∀ k, wantOf c = some k → k ≠ (r.length : Int)) : LineOk s (c :: r) := by
  unfold LineOk
  rw [lineX_what h]
  refine ⟨by show whatT.length ≤ 1000; decide, fun w g k hs hT hE hgk hk => ?_⟩
  have hl : (c :: r).length = r.length + 1 := rfl
  cases hw : wantOf c with
  | none =>
    refine (exec_what_none g k (c :: r).length c hc (by rw [hl]; omega) (by rw [hl]; omega) w (Array.getElem?_eq_some_iff.1 hk).1 ((Lib.cell_of_heap hk 0).trans rfl) hw).mono ?_
    rintro e w' ⟨rfl, b⟩
    exact ⟨_, _, rfl, rfl, hs.below b (Nat.le_refl _), grows2 b _⟩
  | some v =>
    have hv := h v hw
    refine (exec_what_some g k (c :: r).length c hc (by rw [hl]; omega) (by rw [hl]; omega) w (Array.getElem?_eq_some_iff.1 hk).1 ((Lib.cell_of_heap hk 0).trans rfl) v hw (by rcases wantOf_some hw with ⟨_, rfl⟩ | ⟨_, rfl⟩ | ⟨_, rfl⟩ | ⟨_, rfl⟩ | ⟨_, rfl⟩ | ⟨_, rfl⟩ | ⟨_, rfl⟩ | ⟨_, rfl⟩ | ⟨_, rfl⟩ <;> decide) (by rw [hl]; push_cast; omega)).mono ?_
    rintro e w' ⟨rfl, b⟩
    exact ⟨_, _, rfl, rfl, hs.below b (Nat.le_refl _), grows2 b _⟩
end Go.Proofs.YtefadlbfkhndfaaGreatDoor
