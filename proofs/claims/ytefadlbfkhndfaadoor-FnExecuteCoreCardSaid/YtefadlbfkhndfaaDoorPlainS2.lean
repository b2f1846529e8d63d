/-
  Plain laws on scripts that build a core or layers, line by line.
-/
import Derived.Test.YtefadlbfkhndfaaDoorPlainL
namespace Go.Proofs.YtefadlbfkhndfaaDoor
open Go.RowKit
set_option linter.unusedSimpArgs false
set_option linter.unusedVariables false

def pieceLine (p : Pc) : List UInt8 := wPiece ++ 32 :: (dec p.1.toNat ++ 32 :: dec p.2.toNat)
def layerLine (p : Ly) : List UInt8 := wLayer ++ 32 :: lineL p
def okLinesT (n : Nat) : List UInt8 := (List.replicate n [111, 107, 10]).flatten
theorem okLinesT_succ (n : Nat) : okLinesT (n + 1) = okLinesT n ++ [111, 107, 10] := by
  unfold okLinesT
  rw [List.replicate_succ', List.flatten_append]; simp
theorem okLinesT_add (n m : Nat) : okLinesT (n + m) = okLinesT n ++ okLinesT m := by
  unfold okLinesT
  rw [← List.flatten_append, List.replicate_append_replicate]
def linesT (L : List (List UInt8)) : List UInt8 := L.flatMap fun w => w ++ [10]
theorem dec_no32 (n : Nat) : (32 : UInt8) ∉ dec n := not_dec (by decide) n
theorem pieceLine_words (p : Pc) : splitB 32 (pieceLine p) = [wPiece, dec p.1.toNat, dec p.2.toNat] := by
  unfold pieceLine
  rw [splitB_cut _ _ (by decide), splitB_cut _ _ (dec_no32 _), splitB_one _ (dec_no32 _)]
theorem pieceLine_no10 (p : Pc) : (10 : UInt8) ∉ pieceLine p := by
  unfold pieceLine
  simp only [List.mem_append, List.mem_cons, not_or]
  exact ⟨by decide, by decide, dec_no10 _, by decide, dec_no10 _⟩
theorem lineL_no32 (p : Ly) : (32 : UInt8) ∉ lineL p := by
  unfold lineL
  rw [List.mem_append, not_or]
  refine ⟨not_dec (by decide) _, ?_⟩
  split <;> simp
theorem layerLine_words (p : Ly) : splitB 32 (layerLine p) = [wLayer, lineL p] := by
  unfold layerLine
  rw [splitB_cut _ _ (by decide), splitB_one _ (lineL_no32 _)]
theorem layerLine_no10 (p : Ly) : (10 : UInt8) ∉ layerLine p := by
  unfold layerLine
  simp only [List.mem_append, List.mem_cons, not_or]
  exact ⟨by decide, by decide, lineL_no p⟩
theorem coreB_take {l : List Pc} (h : coreB l = true) (k : Nat) : coreB (l.take k) = true := by
  obtain ⟨h1, h2⟩ := (coreB_iff l).1 h
  exact (coreB_iff _).2 ⟨coreFrom_take k h1, by rw [List.length_take]; omega⟩
theorem layB_take {l : List Ly} (h : layB l = true) (k : Nat) : layB (l.take k) = true := by
  obtain ⟨h1, h2⟩ := (layB_iff l).1 h
  exact (layB_iff _).2 ⟨layFrom_take k h1, by rw [List.length_take]; omega⟩
theorem pc_dig {l : List Pc} (h : coreB l = true) {p : Pc} (hp : p ∈ l) : (dig (dec p.1.toNat), dig (dec p.2.toNat)) = p := by
  have := coreFrom_mem ((coreB_iff l).1 h).1 p hp
  unfold dec
  rw [dig_dec (by omega), dig_dec (by omega)]
  exact Prod.ext (by simp; omega) (by simp; omega)
theorem line_piece (s : St) (a b : List UInt8) : lineX s [wPiece, a, b] = addPiece s (dig a) (dig b) := by
  show (if wPiece = wPiece then addPiece s (dig a) (dig b) else if wPiece = wCount then (s, twoT (countL s.lays (dig a) (dig b))) else (s, whatT)) = _
  rw [if_pos rfl]
theorem line_layer (s : St) (a : List UInt8) : lineX s [wLayer, a] = addLayer s a := by
  show (if wLayer = wCut then setCore s (coreCutL s.core (dig a)) else if wLayer = wLayer then addLayer s a else if wLayer = wAge then (s, twoT (countL s.lays 0 (dig a))) else if wLayer = wYear then (s, yearLine (dig a)) else (s, whatT)) = _
  rw [if_neg (by decide), if_pos rfl]
theorem run_pieces {l : List Pc} (h : coreB l = true) : runX st0 (l.map pieceLine) = (⟨l, []⟩, okLinesT l.length) := by
  have key : ∀ k, k ≤ l.length → runX st0 ((l.take k).map pieceLine) = (⟨l.take k, []⟩, okLinesT k) := by
    intro k
    induction k with
    | zero => intro _; rfl
    | succ k ih =>
      intro hk
      have hx : l[k]? = some l[k] := List.getElem?_eq_getElem (by omega)
      have hc := coreB_take h (k + 1)
      have hd := pc_dig h (List.getElem_mem (show k < l.length by omega))
      rw [take_snoc hx] at hc ⊢
      rw [List.map_append, List.map_singleton, runX_one, ih (by omega), pieceLine_words]
      have e : lineX ⟨l.take k, []⟩ [wPiece, dec l[k].1.toNat, dec l[k].2.toNat] = (⟨l.take k ++ [l[k]], []⟩, okT) := by
        rw [line_piece]
        unfold addPiece
        simp only [hd]
        rw [if_pos hc]
      rw [e]
      simp only [okLinesT_succ]
      rfl
  have := key l.length (Nat.le_refl _)
  rwa [List.take_length] at this
theorem run_layers {l : List Ly} (c : List Pc) (h : layB l = true) : runX ⟨c, []⟩ (l.map layerLine) = (⟨c, l⟩, okLinesT l.length) := by
  have key : ∀ k, k ≤ l.length → runX ⟨c, []⟩ ((l.take k).map layerLine) = (⟨c, l.take k⟩, okLinesT k) := by
    intro k
    induction k with
    | zero => intro _; rfl
    | succ k ih =>
      intro hk
      have hx : l[k]? = some l[k] := List.getElem?_eq_getElem (by omega)
      have hc := layB_take h (k + 1)
      have hd := lyOf_line (p := l[k]) (by have := layFrom_mem ((layB_iff l).1 h).1 _ (List.getElem_mem (show k < l.length by omega)); omega)
      rw [take_snoc hx] at hc ⊢
      rw [List.map_append, List.map_singleton, runX_one, ih (by omega), layerLine_words]
      have e : lineX ⟨c, l.take k⟩ [wLayer, lineL l[k]] = (⟨c, l.take k ++ [l[k]]⟩, okT) := by
        rw [line_layer]
        unfold addLayer layerOf
        simp only [hd]
        rw [if_pos hc]
      rw [e]
      simp only [okLinesT_succ]
      rfl
  have := key l.length (Nat.le_refl _)
  rwa [List.take_length] at this
theorem linesX_linesT (L : List (List UInt8)) (h : ∀ w ∈ L, (10 : UInt8) ∉ w) : linesX (linesT L) = L := (linesX_flat L h).1
theorem linesT_append (a b : List (List UInt8)) : linesT (a ++ b) = linesT a ++ linesT b := by unfold linesT; rw [List.flatMap_append]
theorem exec_lines (L : List (List UInt8)) (h : ∀ w ∈ L, (10 : UInt8) ∉ w) (hl : (linesT L).length ≤ 500) : execT (linesT L) = (runX st0 L).2 ++ endT (runX st0 L).1 := by
  rw [execT_short hl, linesX_linesT L h]
theorem pieceLine_len {l : List Pc} (h : coreB l = true) {p : Pc} (hp : p ∈ l) : (pieceLine p).length ≤ 17 := by
  have := coreFrom_mem ((coreB_iff l).1 h).1 p hp
  have a1 := dec_len 4 p.1.toNat (by omega)
  have a2 := dec_len 4 p.2.toNat (by omega)
  unfold pieceLine dec wPiece
  simp only [List.length_append, List.length_cons, List.length_nil]
  omega
theorem layerLine_len {l : List Ly} (h : layB l = true) {p : Ly} (hp : p ∈ l) : (layerLine p).length ≤ 12 := by
  have := layFrom_mem ((layB_iff l).1 h).1 p hp
  have a1 := dec_len 4 p.1.toNat (by omega)
  unfold layerLine lineL wLayer
  simp only [List.length_append, List.length_cons, List.length_nil]
  split <;> simp <;> omega
theorem linesT_len (L : List (List UInt8)) (m : Nat) (h : ∀ w ∈ L, w.length ≤ m) : (linesT L).length ≤ (m + 1) * L.length := by
  induction L with
  | nil => simp [linesT]
  | cons w L ih =>
    have e : linesT (w :: L) = (w ++ [10]) ++ linesT L := rfl
    have := ih (fun x hx => h x (List.mem_cons_of_mem _ hx))
    have := h w List.mem_cons_self
    rw [e, List.length_append, List.length_append, show (w :: L).length = L.length + 1 from rfl, Nat.mul_add]
    simp only [List.length_cons, List.length_nil, Nat.mul_one]
    omega
end Go.Proofs.YtefadlbfkhndfaaDoor
