/-
  Plain laws on scripts: what the scripts of the laws answer.
-/
import Derived.Test.YtefadlbfkhndfaaDoorPlainS2
namespace Go.Proofs.YtefadlbfkhndfaaDoor
open Go.RowKit
set_option linter.unusedSimpArgs false
set_option linter.unusedVariables false

theorem line1 (s : St) (c : List UInt8) : lineX s [c] = (if c = wJoin then (if coreB s.core = true then ({ s with core := joinL s.core }, okT) else (s, noT)) else if c = wCore then (s, coreT s.core) else if c = wLength then (s, dec (coreLen s.core).toNat) else (s, whatT)) := rfl
theorem line2 (s : St) (c a : List UInt8) : lineX s [c, a] = (if c = wCut then setCore s (coreCutL s.core (dig a)) else if c = wLayer then addLayer s a else if c = wAge then (s, twoT (countL s.lays 0 (dig a))) else if c = wYear then (s, yearLine (dig a)) else (s, whatT)) := rfl
theorem line3 (s : St) (c a b : List UInt8) : lineX s [c, a, b] = (if c = wPiece then addPiece s (dig a) (dig b) else if c = wCount then (s, twoT (countL s.lays (dig a) (dig b))) else (s, whatT)) := rfl
theorem line_cut (s : St) (a : List UInt8) : lineX s [wCut, a] = setCore s (coreCutL s.core (dig a)) := by rw [line2, if_pos rfl]
theorem line_join (s : St) : lineX s [wJoin] = (if coreB s.core = true then ({ s with core := joinL s.core }, okT) else (s, noT)) := by rw [line1, if_pos rfl]
theorem line_count (s : St) (a b : List UInt8) : lineX s [wCount, a, b] = (s, twoT (countL s.lays (dig a) (dig b))) := by rw [line3, if_neg (by decide), if_pos rfl]
theorem line_age (s : St) (a : List UInt8) : lineX s [wAge, a] = (s, twoT (countL s.lays 0 (dig a))) := by rw [line2, if_neg (by decide), if_neg (by decide), if_pos rfl]
theorem line_year (s : St) (a : List UInt8) : lineX s [wYear, a] = (s, yearLine (dig a)) := by rw [line2, if_neg (by decide), if_neg (by decide), if_neg (by decide), if_pos rfl]
theorem line_core (s : St) : lineX s [wCore] = (s, coreT s.core) := by rw [line1, if_neg (by decide), if_pos rfl]
theorem line_length (s : St) : lineX s [wLength] = (s, dec (coreLen s.core).toNat) := by rw [line1, if_neg (by decide), if_neg (by decide), if_pos rfl]
theorem dig_decB {u : Nat} (h : u ≤ 999999) : dig (dec u) = u := by
  unfold dig dec
  rw [if_pos ⟨dec_pos u, dec_len 5 u (by omega)⟩, decFrom_dec]
theorem ws_one {c : List UInt8} (hc : (32 : UInt8) ∉ c) (n : Nat) : splitB 32 (c ++ 32 :: dec n) = [c, dec n] := by rw [splitB_cut _ _ hc, splitB_one _ (dec_no32 _)]
theorem ws_two {c : List UInt8} (hc : (32 : UInt8) ∉ c) (n m : Nat) : splitB 32 (c ++ 32 :: (dec n ++ 32 :: dec m)) = [c, dec n, dec m] := by rw [splitB_cut _ _ hc, splitB_cut _ _ (dec_no32 _), splitB_one _ (dec_no32 _)]
theorem no10_one {c : List UInt8} (hc : (10 : UInt8) ∉ c) (n : Nat) : (10 : UInt8) ∉ c ++ 32 :: dec n := by
  simp only [List.mem_append, List.mem_cons, not_or]
  exact ⟨hc, by decide, dec_no10 _⟩
theorem no10_two {c : List UInt8} (hc : (10 : UInt8) ∉ c) (n m : Nat) : (10 : UInt8) ∉ c ++ 32 :: (dec n ++ 32 :: dec m) := by
  simp only [List.mem_append, List.mem_cons, not_or]
  exact ⟨hc, by decide, dec_no10 _, by decide, dec_no10 _⟩
theorem pieces_no10 (l : List Pc) (r : List (List UInt8)) (hr : ∀ w ∈ r, (10 : UInt8) ∉ w) : ∀ w ∈ l.map pieceLine ++ r, (10 : UInt8) ∉ w := by
  intro w hw
  rcases List.mem_append.1 hw with h | h
  · obtain ⟨p, _, rfl⟩ := List.mem_map.1 h
    exact pieceLine_no10 p
  · exact hr w h
theorem layers_no10 (l : List Ly) (r : List (List UInt8)) (hr : ∀ w ∈ r, (10 : UInt8) ∉ w) : ∀ w ∈ l.map layerLine ++ r, (10 : UInt8) ∉ w := by
  intro w hw
  rcases List.mem_append.1 hw with h | h
  · obtain ⟨p, _, rfl⟩ := List.mem_map.1 h
    exact layerLine_no10 p
  · exact hr w h
theorem pieces_len {l : List Pc} (h : coreB l = true) : (linesT (l.map pieceLine)).length ≤ 360 := by
  have := linesT_len (l.map pieceLine) 17 (fun w hw => by obtain ⟨p, hp, rfl⟩ := List.mem_map.1 hw; exact pieceLine_len h hp)
  rw [List.length_map] at this
  have := ((coreB_iff l).1 h).2
  omega
theorem layers_len {l : List Ly} (h : layB l = true) (h9 : l.length ≤ 20) : (linesT (l.map layerLine)).length ≤ 260 := by
  have := linesT_len (l.map layerLine) 12 (fun w hw => by obtain ⟨p, hp, rfl⟩ := List.mem_map.1 hw; exact layerLine_len h hp)
  rw [List.length_map] at this
  omega
theorem run_two (s : St) (a b : List UInt8) : runX s [a, b] = ((lineX (lineX s (splitB 32 a)).1 (splitB 32 b)).1, (lineX s (splitB 32 a)).2 ++ 10 :: ((lineX (lineX s (splitB 32 a)).1 (splitB 32 b)).2 ++ [10])) := rfl
theorem run_1 (s : St) (a : List UInt8) : runX s [a] = ((lineX s (splitB 32 a)).1, (lineX s (splitB 32 a)).2 ++ [10]) := rfl

/-- A core that is told. -/
theorem exec_core {l : List Pc} (h : coreB l = true) : execT (linesT (l.map pieceLine) ++ (wCore ++ 10 :: (wLength ++ [10]))) =
    okLinesT l.length ++ (coreT l ++ 10 :: (dec (coreLen l).toNat ++ [10])) ++ endT ⟨l, []⟩ := by
  have e : linesT (l.map pieceLine) ++ (wCore ++ 10 :: (wLength ++ [10])) = linesT (l.map pieceLine ++ [wCore, wLength]) := by rw [linesT_append]; simp [linesT]
  rw [e, exec_lines _ (pieces_no10 l _ (by decide)) (by rw [← e, List.length_append]; have := pieces_len h; simp [wCore, wLength]; omega), runX_append, run_pieces h, run_two]
  have e1 : splitB 32 wCore = [wCore] := by decide
  have e2 : splitB 32 wLength = [wLength] := by decide
  rw [e1, e2]
  rfl
/-- A core that is cut. -/
theorem exec_cut {l l' : List Pc} {d : Nat} (h : coreB l = true) (hd : d ≤ 30000) (hc : coreCutL l d = some l') : execT (linesT (l.map pieceLine) ++ ((wCut ++ 32 :: dec d) ++ 10 :: (wCore ++ [10]))) =
    okLinesT (l.length + 1) ++ (coreT l' ++ [10]) ++ endT ⟨l', []⟩ := by
  have e : linesT (l.map pieceLine) ++ ((wCut ++ 32 :: dec d) ++ 10 :: (wCore ++ [10])) = linesT (l.map pieceLine ++ [wCut ++ 32 :: dec d, wCore]) := by rw [linesT_append]; simp [linesT]
  have hl : (dec d).length ≤ 5 := dec_len 4 d (by omega)
  rw [e, exec_lines _ (pieces_no10 l _ (by
    intro w hw
    simp only [List.mem_cons, List.mem_nil_iff, or_false] at hw
    rcases hw with rfl | rfl
    · exact no10_one (by decide) d
    · decide)) (by rw [← e, List.length_append]; have := pieces_len h; simp [wCore, wCut]; omega), runX_append, run_pieces h, run_two]
  have e2 : splitB 32 wCore = [wCore] := by decide
  rw [ws_one (by decide) d, e2]
  have e3 : lineX ⟨l, []⟩ [wCut, dec d] = (⟨l', []⟩, okT) := by
    rw [line_cut, dig_decB (by omega), hc]
    rfl
  rw [e3]
  have e4 : lineX ⟨l', []⟩ [wCore] = (⟨l', []⟩, coreT l') := rfl
  simp only [e4, okLinesT_succ]
  simp [okT]
/-- A core that is joined. -/
theorem exec_join {l : List Pc} (h : coreB l = true) : execT (linesT (l.map pieceLine) ++ (wJoin ++ 10 :: (wCore ++ [10]))) =
    okLinesT (l.length + 1) ++ (coreT (joinL l) ++ [10]) ++ endT ⟨joinL l, []⟩ := by
  have e : linesT (l.map pieceLine) ++ (wJoin ++ 10 :: (wCore ++ [10])) = linesT (l.map pieceLine ++ [wJoin, wCore]) := by rw [linesT_append]; simp [linesT]
  rw [e, exec_lines _ (pieces_no10 l _ (by decide)) (by rw [← e, List.length_append]; have := pieces_len h; simp [wCore, wJoin]; omega), runX_append, run_pieces h, run_two]
  have e1 : splitB 32 wJoin = [wJoin] := by decide
  have e2 : splitB 32 wCore = [wCore] := by decide
  rw [e1, e2]
  have e3 : lineX ⟨l, []⟩ [wJoin] = (⟨joinL l, []⟩, okT) := by
    rw [line_join, if_pos h]
  rw [e3]
  have e4 : lineX ⟨joinL l, []⟩ [wCore] = (⟨joinL l, []⟩, coreT (joinL l)) := rfl
  simp only [e4, okLinesT_succ]
  simp [okT]
/-- Layers, and one more that is not deeper. -/
theorem layB_twice {l : List Ly} {p : Ly} (h : l.getLast? = some p) : layB (l ++ [p]) = false := by
  obtain ⟨l', rfl⟩ := List.getLast?_eq_some_iff.1 h
  cases hB : layB (l' ++ [p] ++ [p]) with
  | false => rfl
  | true =>
    have hF := layFrom_drop l'.length ((layB_iff _).1 hB).1
    rw [List.append_assoc, List.drop_left] at hF
    simp only [List.cons_append, List.nil_append] at hF
    rw [layFrom_cons, layFrom_cons] at hF
    omega
theorem exec_layer {l : List Ly} {p : Ly} (h : layB l = true) (h9 : l.length ≤ 20) (hp : l.getLast? = some p) : execT (linesT (l.map layerLine) ++ (layerLine p ++ [10])) = okLinesT l.length ++ (noT ++ [10]) ++ endT ⟨[], l⟩ := by
  have e : linesT (l.map layerLine) ++ (layerLine p ++ [10]) = linesT (l.map layerLine ++ [layerLine p]) := by rw [linesT_append]; simp [linesT]
  have hm : p ∈ l := List.mem_of_getLast? hp
  rw [e, exec_lines _ (layers_no10 l _ (by
    intro w hw
    rw [List.mem_singleton.1 hw]; exact layerLine_no10 p)) (by rw [← e, List.length_append]; have := layers_len h h9; have := layerLine_len h hm; simp; omega), runX_append]
  rw [show st0 = (⟨[], []⟩ : St) from rfl, run_layers [] h, run_1, layerLine_words]
  have hd := lyOf_line (p := p) (by have := layFrom_mem ((layB_iff l).1 h).1 _ hm; omega)
  have e3 : lineX ⟨[], l⟩ [wLayer, lineL p] = (⟨[], l⟩, noT) := by
    rw [line_layer]
    unfold addLayer layerOf
    simp only [hd]
    rw [if_neg (by rw [layB_twice hp]; simp)]
  rw [e3]
theorem exec_layers {l : List Ly} {w : List UInt8} (h : layB l = true) (h9 : l.length ≤ 20) (hw : (10 : UInt8) ∉ w) (hl : w.length ≤ 200) : execT (linesT (l.map layerLine) ++ (w ++ [10])) =
    okLinesT l.length ++ ((lineX ⟨[], l⟩ (splitB 32 w)).2 ++ [10]) ++ endT (lineX ⟨[], l⟩ (splitB 32 w)).1 := by
  have e : linesT (l.map layerLine) ++ (w ++ [10]) = linesT (l.map layerLine ++ [w]) := by rw [linesT_append]; simp [linesT]
  rw [e, exec_lines _ (layers_no10 l _ (by
    intro x hx
    rw [List.mem_singleton.1 hx]; exact hw)) (by rw [← e, List.length_append]; have := layers_len h h9; simp; omega), runX_append]
  rw [show st0 = (⟨[], []⟩ : St) from rfl, run_layers [] h, run_1]
theorem exec_count {l : List Ly} {t b : Nat} {r : Nat × Nat} (h : layB l = true) (h9 : l.length ≤ 20) (ht : t ≤ 30000) (hb : b ≤ 30000) (hc : countL l t b = some r) :
    execT (linesT (l.map layerLine) ++ ((wCount ++ 32 :: (dec t ++ 32 :: dec b)) ++ [10])) = okLinesT l.length ++ (dec r.1 ++ 32 :: dec r.2 ++ [10]) ++ endT ⟨[], l⟩ := by
  have h1 : (dec t).length ≤ 5 := dec_len 4 t (by omega)
  have h2 : (dec b).length ≤ 5 := dec_len 4 b (by omega)
  rw [exec_layers h h9 (no10_two (by decide) t b) (by simp [wCount]; omega), ws_two (by decide) t b]
  have e3 : lineX ⟨[], l⟩ [wCount, dec t, dec b] = (⟨[], l⟩, twoT (countL l t b)) := by
    rw [line_count, dig_decB (by omega), dig_decB (by omega)]
  rw [e3, hc]
  rfl
theorem exec_age {l : List Ly} {d : Nat} {r : Nat × Nat} (h : layB l = true) (h9 : l.length ≤ 20) (hd : d ≤ 30000) (hc : countL l 0 d = some r) :
    execT (linesT (l.map layerLine) ++ ((wAge ++ 32 :: dec d) ++ [10])) = okLinesT l.length ++ (dec r.1 ++ 32 :: dec r.2 ++ [10]) ++ endT ⟨[], l⟩ := by
  have h1 : (dec d).length ≤ 5 := dec_len 4 d (by omega)
  rw [exec_layers h h9 (no10_one (by decide) d) (by simp [wAge]; omega), ws_one (by decide) d]
  have e3 : lineX ⟨[], l⟩ [wAge, dec d] = (⟨[], l⟩, twoT (countL l 0 d)) := by
    rw [line_age, dig_decB (by omega)]
  rw [e3, hc]
  rfl
theorem exec_year {a : Nat} (ha : a ≤ 202000) : execT ((wYear ++ 32 :: dec a) ++ [10]) = (yearT (2000 - a) ++ [10]) ++ endT st0 := by
  have h1 : (dec a).length ≤ 6 := dec_len 5 a (by omega)
  have e := execT_add (r := []) (w := wYear ++ 32 :: dec a) (.inl rfl) (no10_one (by decide) a) (by simp [wYear]; omega)
  rw [List.nil_append] at e
  rw [e, ws_one (by decide) a]
  have e3 : lineX (runX st0 (linesX [])).1 [wYear, dec a] = (st0, yearLine a) := by
    rw [line_year, dig_decB (by omega)]
    rfl
  rw [e3]
  unfold yearLine
  rw [if_pos (by omega)]
  rfl
end Go.Proofs.YtefadlbfkhndfaaDoor
