/-
  What the texts below prove: contracts and plain laws, each with its conditions.
-/
import Derived.Test.YtefadlbfkhndfaaGreatDoorGB
import Derived.Test.YtefadlbfkhndfaaGreatDoorGC
import Derived.Test.YtefadlbfkhndfaaGreatDoorGA
import Derived.Maps.OwnSet
import Derived.RegionTactic
import Derived.Deep.RegionHeld3
import Derived.BigQuiet

/-
  Plain words on scripts: what a line does to the state, what it answers, what a script answers.
-/
namespace Go.Proofs.YtefadlbfkhndfaaGreatDoor
open Go.RowKit
set_option linter.unusedSimpArgs false
set_option linter.unusedVariables false

/-- What a script has made so far. -/
structure St where
  core : List Pc
  lays : List Ly
def St.ok (s : St) : Prop := coreB s.core = true ∧ layB s.lays = true
def wPiece : List UInt8 := [112, 105, 101, 99, 101]
def wCut : List UInt8 := [99, 117, 116]
def wJoin : List UInt8 := [106, 111, 105, 110]
def wLayer : List UInt8 := [108, 97, 121, 101, 114]
def wCore : List UInt8 := [99, 111, 114, 101]
def wLength : List UInt8 := [108, 101, 110, 103, 116, 104]
def wCount : List UInt8 := [99, 111, 117, 110, 116]
def wAge : List UInt8 := [97, 103, 101]
def wYear : List UInt8 := [121, 101, 97, 114]
def okT : List UInt8 := [111, 107]
def noT : List UInt8 := [110, 111]
def whatT : List UInt8 := [119, 104, 97, 116]
def tooLong : List UInt8 := [116, 111, 111, 32, 108, 111, 110, 103, 10]
def dec (n : Nat) : List UInt8 := Lib.decDigits n

/-! ### Layers between two depths -/
def spanB (a b : Int) : Bool := decide (0 ≤ a ∧ a ≤ b ∧ b ≤ 30000)
def cntAll (t b : Int) (l : List Ly) : Nat := l.countP fun p => decide (t ≤ p.1 ∧ p.1 < b)
def cntSure (t b : Int) (l : List Ly) : Nat := l.countP fun p => decide (t ≤ p.1 ∧ p.1 < b) && p.2
def countL (l : List Ly) (t b : Int) : Option (Nat × Nat) := if layB l = true ∧ spanB t b = true then some (cntSure t b l, cntAll t b l) else none
def twoT : Option (Nat × Nat) → List UInt8
  | some p => dec p.1 ++ 32 :: dec p.2
  | none => noT

/-! ### A core that is cut -/
def holds (d : Int) (p : Pc) : Bool := decide (p.1 ≤ d ∧ d < p.2)
def atL (d : Int) (l : List Pc) : Option Nat := l.findIdx? (holds d)
def coreCutL (l : List Pc) (d : Int) : Option (List Pc) :=
  if coreB l = true then
    match atL d l with
    | some k => if (l[k]?.getD (0, 0)).1 = d ∨ l.length = 20 then none else some (l.take k ++ ((l[k]?.getD (0, 0)).1, d) :: (d, (l[k]?.getD (0, 0)).2) :: l.drop (k + 1))
    | none => none
  else none

/-! ### Years -/
def yearT (y : Int) : List UInt8 := if -200000 ≤ y ∧ y ≤ 200000 then (if 0 < y then dec y.toNat ++ [32, 67, 69] else dec (1 - y).toNat ++ [32, 66, 67, 69]) else []
def yearLine (a : Int) : List UInt8 := if 0 ≤ a ∧ a ≤ 202000 then yearT (2000 - a) else noT

/-! ### A line -/
def setCore (s : St) : Option (List Pc) → St × List UInt8
  | some c => ({ s with core := c }, okT)
  | none => (s, noT)
def addPiece (s : St) (a b : Int) : St × List UInt8 := if coreB (s.core ++ [(a, b)]) = true then ({ s with core := s.core ++ [(a, b)] }, okT) else (s, noT)
def layerOf (w : List UInt8) : Ly := lyOf w
def addLayer (s : St) (w : List UInt8) : St × List UInt8 := if layB (s.lays ++ [layerOf w]) = true then ({ s with lays := s.lays ++ [layerOf w] }, okT) else (s, noT)
def lineX (s : St) : List (List UInt8) → St × List UInt8
  | [c] =>
    if c = wJoin then (if coreB s.core = true then ({ s with core := joinL s.core }, okT) else (s, noT))
    else if c = wCore then (s, coreT s.core)
    else if c = wLength then (s, dec (coreLen s.core).toNat)
    else (s, whatT)
  | [c, a] =>
    if c = wCut then setCore s (coreCutL s.core (dig a))
    else if c = wLayer then addLayer s a
    else if c = wAge then (s, twoT (countL s.lays 0 (dig a)))
    else if c = wYear then (s, yearLine (dig a))
    else (s, whatT)
  | [c, a, b] =>
    if c = wPiece then addPiece s (dig a) (dig b)
    else if c = wCount then (s, twoT (countL s.lays (dig a) (dig b)))
    else (s, whatT)
  | _ => (s, whatT)

/-! ### A script -/
def runX : St → List (List UInt8) → St × List UInt8
  | s, [] => (s, [])
  | s, l :: t => ((runX (lineX s (splitB 32 l)).1 t).1, (lineX s (splitB 32 l)).2 ++ 10 :: (runX (lineX s (splitB 32 l)).1 t).2)
def endT (s : St) : List UInt8 := [112, 105, 101, 99, 101, 115, 32] ++ dec s.core.length ++ [32, 108, 97, 121, 101, 114, 115, 32] ++ dec s.lays.length ++ [10]
def st0 : St := ⟨[], []⟩
def linesX (t : List UInt8) : List (List UInt8) := (splitB 10 t).dropLast
def execT (t : List UInt8) : List UInt8 := if 500 < t.length then tooLong else (runX st0 (linesX t)).2 ++ endT (runX st0 (linesX t)).1

theorem runX_append : ∀ (s : St) (a b : List (List UInt8)), runX s (a ++ b) = ((runX (runX s a).1 b).1, (runX s a).2 ++ (runX (runX s a).1 b).2) := by
  intro s a
  induction a generalizing s with
  | nil => intro b; rfl
  | cons l t ih => intro b; simp only [List.cons_append, runX, ih]; simp

/-! ### The state stays valid -/
theorem st0_ok : st0.ok := ⟨rfl, rfl⟩
theorem coreFrom_append : ∀ {a b : List Pc} {d : Int}, coreFrom d (a ++ b) = true ↔ coreFrom d a = true ∧ coreFrom ((a.getLast?.map (·.2)).getD d) b = true := by
  intro a
  induction a with
  | nil => intro b d; simp [coreFrom]
  | cons p a ih =>
    intro b d
    rw [List.cons_append, coreFrom_cons, coreFrom_cons, ih]
    cases a with
    | nil => simp [coreFrom]
    | cons q a =>
      obtain ⟨z, hz⟩ : ∃ z, (q :: a).getLast? = some z := ⟨_, List.getLast?_eq_some_getLast (by simp)⟩
      rw [List.getLast?_cons_cons, hz]
      simp only [Option.map_some, Option.getD_some]
      exact ⟨fun h => ⟨⟨h.1, h.2.1⟩, h.2.2⟩, fun h => ⟨h.1.1, h.1.2, h.2⟩⟩
theorem atL_spec {d : Int} {l : List Pc} {k : Nat} (h : atL d l = some k) : ∃ x y, l[k]? = some (x, y) ∧ x ≤ d ∧ d < y := by
  unfold atL at h
  obtain ⟨hk, hp, _⟩ := List.findIdx?_eq_some_iff_getElem.1 h
  refine ⟨l[k].1, l[k].2, List.getElem?_eq_getElem hk, ?_⟩
  simpa [holds] using hp
theorem coreCutL_ok {l l' : List Pc} {d : Int} (h : coreCutL l d = some l') : coreB l' = true := by
  unfold coreCutL at h
  split at h
  · rename_i hB
    split at h
    · rename_i k hk
      obtain ⟨x, y, hx, h1, h2⟩ := atL_spec hk
      rw [hx] at h
      simp only [Option.getD_some] at h
      split at h
      · cases h
      · rename_i hn
        injection h with h
        subst h
        obtain ⟨hF, h20⟩ := (coreB_iff l).1 hB
        have hkl : k < l.length := (List.getElem?_eq_some_iff.1 hx).1
        refine (coreB_iff _).2 ⟨?_, by simp; omega⟩
        have e : l = l.take k ++ (x, y) :: l.drop (k + 1) := by rw [← drop_cons hx, List.take_append_drop]
        rw [e, coreFrom_append, coreFrom_cons] at hF
        rw [coreFrom_append, coreFrom_cons, coreFrom_cons]
        obtain ⟨f1, ⟨f2, f3, f4⟩, f5⟩ := hF
        simp only at f2 f3 f4 f5
        exact ⟨f1, ⟨f2, by simp; omega, by simp; omega⟩, ⟨by simp, by simp; omega, by simp; omega⟩, f5⟩
    · cases h
  · cases h
theorem joinL_ok {l : List Pc} (h : coreB l = true) : coreB (joinL l) = true := by
  obtain ⟨hF, h20⟩ := (coreB_iff l).1 h
  cases l with
  | nil => exact h
  | cons p t =>
    have := joinAcc_good hF
    exact (coreB_iff _).2 ⟨this.1, by have := this.2; simp at h20; show (joinAcc p t).length ≤ 20; omega⟩
theorem lineX_ok {s : St} (h : s.ok) (ws : List (List UInt8)) : (lineX s ws).1.ok := by
  obtain ⟨h1, h2⟩ := h
  unfold lineX
  split
  · repeat' split
    all_goals first | exact ⟨joinL_ok (by assumption), h2⟩ | exact ⟨h1, h2⟩
  · split
    · unfold setCore
      split
      · exact ⟨coreCutL_ok (by assumption), h2⟩
      · exact ⟨h1, h2⟩
    · split
      · unfold addLayer
        split
        · exact ⟨h1, by assumption⟩
        · exact ⟨h1, h2⟩
      · repeat' split
        all_goals exact ⟨h1, h2⟩
  · split
    · unfold addPiece
      split
      · exact ⟨by assumption, h2⟩
      · exact ⟨h1, h2⟩
    · split <;> exact ⟨h1, h2⟩
  · exact ⟨h1, h2⟩
theorem runX_ok : ∀ {ls : List (List UInt8)} {s : St}, s.ok → (runX s ls).1.ok := by
  intro ls
  induction ls with
  | nil => intro s h; exact h
  | cons l t ih => intro s h; exact ih (lineX_ok h _)
end Go.Proofs.YtefadlbfkhndfaaGreatDoor

/-
  Plain laws on scripts: lines that are added, the last line of an answer, scripts that build a core or layers.
-/
namespace Go.Proofs.YtefadlbfkhndfaaGreatDoor
open Go.RowKit
set_option linter.unusedSimpArgs false
set_option linter.unusedVariables false

/-! ### Complete lines -/
/-- Nothing, or a newline at the end. -/
def Closed (t : List UInt8) : Prop := t = [] ∨ ∃ x, t = x ++ [10]
theorem splitB_mid {c : UInt8} : ∀ (x y : List UInt8), splitB c (x ++ c :: y) = splitB c x ++ splitB c y := by
  intro x
  induction x with
  | nil =>
    intro y
    show (if c = c then [] :: splitB c y else preS [c] (splitB c y)) = _
    rw [if_pos rfl]; rfl
  | cons b x ih =>
    intro y
    rw [List.cons_append, splitB, splitB, ih]
    split
    · rfl
    · rw [preS_append _ (splitB_ne c x)]
theorem linesX_nil : linesX [] = [] := rfl
theorem linesX_end (x : List UInt8) : linesX (x ++ [10]) = splitB 10 x := by unfold linesX; rw [splitB_end, List.dropLast_concat]
theorem linesX_rest {r y : List UInt8} (hr : Closed r) (hy : (10 : UInt8) ∉ y) : linesX (r ++ y) = linesX r := by
  rcases hr with rfl | ⟨x, rfl⟩
  · rw [List.nil_append]; unfold linesX; rw [splitB_one y hy]; rfl
  · rw [linesX_end, List.append_assoc]
    unfold linesX
    rw [show [10] ++ y = 10 :: y from rfl, splitB_mid, splitB_one y hy, List.dropLast_concat]
theorem linesX_add {r w : List UInt8} (hr : Closed r) (hw : (10 : UInt8) ∉ w) : linesX (r ++ (w ++ [10])) = linesX r ++ [w] := by
  rcases hr with rfl | ⟨x, rfl⟩
  · rw [List.nil_append, linesX_end, splitB_one w hw]; rfl
  · rw [linesX_end, List.append_assoc]
    unfold linesX
    rw [show [10] ++ (w ++ [10]) = 10 :: (w ++ [10]) from rfl, splitB_mid, splitB_end, splitB_one w hw, ← List.append_assoc, List.dropLast_concat]
theorem Closed.add {r w : List UInt8} : Closed (r ++ (w ++ [10])) := .inr ⟨r ++ w, by simp⟩
theorem linesX_flat2 : ∀ (L : List (List UInt8)) (r : List UInt8), Closed r → (∀ w ∈ L, (10 : UInt8) ∉ w) → linesX (r ++ L.flatMap fun w => w ++ [10]) = linesX r ++ L ∧ Closed (r ++ L.flatMap fun w => w ++ [10]) := by
  intro L
  induction L with
  | nil => intro r hr _; simp only [List.flatMap_nil, List.append_nil]; exact ⟨trivial, hr⟩
  | cons w L ih =>
    intro r hr h
    obtain ⟨h1, h2⟩ := ih (r ++ (w ++ [10])) Closed.add (fun x hx => h x (List.mem_cons_of_mem _ hx))
    rw [linesX_add hr (h w List.mem_cons_self)] at h1
    rw [List.flatMap_cons, ← List.append_assoc]
    exact ⟨by rw [h1]; simp, h2⟩
theorem linesX_flat (L : List (List UInt8)) (h : ∀ w ∈ L, (10 : UInt8) ∉ w) : linesX (L.flatMap fun w => w ++ [10]) = L ∧ Closed (L.flatMap fun w => w ++ [10]) := by
  have := linesX_flat2 L [] (.inl rfl) h
  rw [List.nil_append, linesX_nil, List.nil_append] at this
  exact this

/-! ### The answer -/
theorem runX_closed : ∀ (ls : List (List UInt8)) (s : St), Closed (runX s ls).2 := by
  intro ls
  induction ls with
  | nil => intro s; exact .inl rfl
  | cons l t ih =>
    intro s
    right
    rw [runX]
    rcases ih (lineX s (splitB 32 l)).1 with h | ⟨x, h⟩
    · exact ⟨(lineX s (splitB 32 l)).2, by simp [h]⟩
    · exact ⟨(lineX s (splitB 32 l)).2 ++ 10 :: x, by simp [h]⟩
theorem runX_one (s : St) (ls : List (List UInt8)) (w : List UInt8) : runX s (ls ++ [w]) = ((lineX (runX s ls).1 (splitB 32 w)).1, (runX s ls).2 ++ ((lineX (runX s ls).1 (splitB 32 w)).2 ++ [10])) := by
  rw [runX_append]; rfl
theorem dec_no10 (n : Nat) : (10 : UInt8) ∉ dec n := not_dec (by decide) n
theorem endT_form (s : St) : ∃ e, endT s = e ++ [10] ∧ (10 : UInt8) ∉ e := by
  refine ⟨[112, 105, 101, 99, 101, 115, 32] ++ dec s.core.length ++ [32, 108, 97, 121, 101, 114, 115, 32] ++ dec s.lays.length, rfl, ?_⟩
  simp only [List.mem_append, not_or]
  exact ⟨⟨⟨by decide, dec_no10 _⟩, by decide⟩, dec_no10 _⟩
theorem execT_short {t : List UInt8} (h : t.length ≤ 500) : execT t = (runX st0 (linesX t)).2 ++ endT (runX st0 (linesX t)).1 := by
  unfold execT; rw [if_neg (by omega)]
theorem execT_add {r w : List UInt8} (hr : Closed r) (hw : (10 : UInt8) ∉ w) (hl : r.length + w.length + 1 ≤ 500) :
    execT (r ++ (w ++ [10])) = (runX st0 (linesX r)).2 ++ ((lineX (runX st0 (linesX r)).1 (splitB 32 w)).2 ++ [10]) ++ endT (lineX (runX st0 (linesX r)).1 (splitB 32 w)).1 := by
  rw [execT_short (by simp; omega), linesX_add hr hw, runX_one]

/-! ### What the laws ask of the text that ends with a newline and of the last line -/
/-- r is what is left of t when what is behind the last newline is cut off. -/
def IsComplete (t r : List UInt8) : Prop := Closed r ∧ ∃ y, t = r ++ y ∧ (10 : UInt8) ∉ y
theorem IsComplete.lines {t r : List UInt8} (h : IsComplete t r) : linesX r = linesX t := by
  obtain ⟨h1, y, rfl, hy⟩ := h
  exact (linesX_rest h1 hy).symm
theorem IsComplete.len {t r : List UInt8} (h : IsComplete t r) : r.length ≤ t.length := by
  obtain ⟨_, y, rfl, _⟩ := h
  simp
theorem IsComplete.same {t r : List UInt8} (h : IsComplete t r) (hl : t.length ≤ 500) : execT r = execT t := by
  rw [execT_short hl, execT_short (by have := h.len; omega), h.lines]
/-- e is the last line of a. -/
def IsLast (a e : List UInt8) : Prop := ∃ x, a = x ++ e ∧ Closed x ∧ ∃ y, e = y ++ [10] ∧ (10 : UInt8) ∉ y
theorem last_exec {r : List UInt8} (hl : r.length ≤ 500) : IsLast (execT r) (endT (runX st0 (linesX r)).1) := by
  obtain ⟨y, hy, hn⟩ := endT_form (runX st0 (linesX r)).1
  exact ⟨_, execT_short hl, runX_closed _ _, y, hy, hn⟩
end Go.Proofs.YtefadlbfkhndfaaGreatDoor

/-
  Plain laws on scripts that build a core or layers, line by line.
-/
namespace Go.Proofs.YtefadlbfkhndfaaGreatDoor
open Go.RowKit
set_option linter.unusedSimpArgs false
set_option linter.unusedVariables false

def pieceLine (p : Pc) : List UInt8 := wPiece ++ 32 :: (dec p.1.toNat ++ 32 :: dec p.2.toNat)
def layerLine (p : Ly) : List UInt8 := wLayer ++ 32 :: lineL p
def okLinesT (n : Nat) : List UInt8 := (List.replicate n [111, 107, 10]).flatten
theorem okLinesT_succ (n : Nat) : okLinesT (n + 1) = okLinesT n ++ [111, 107, 10] := by
  unfold okLinesT
  rw [List.replicate_succ', List.flatten_append]; simp
theorem okLinesT_add (n m : Nat) : okLinesT (n + m) = okLinesT n ++ okLinesT m := by
  unfold okLinesT
  rw [← List.flatten_append, List.replicate_append_replicate]
def linesT (L : List (List UInt8)) : List UInt8 := L.flatMap fun w => w ++ [10]
theorem dec_no32 (n : Nat) : (32 : UInt8) ∉ dec n := not_dec (by decide) n
theorem pieceLine_words (p : Pc) : splitB 32 (pieceLine p) = [wPiece, dec p.1.toNat, dec p.2.toNat] := by
  unfold pieceLine
  rw [splitB_cut _ _ (by decide), splitB_cut _ _ (dec_no32 _), splitB_one _ (dec_no32 _)]
theorem pieceLine_no10 (p : Pc) : (10 : UInt8) ∉ pieceLine p := by
  unfold pieceLine
  simp only [List.mem_append, List.mem_cons, not_or]
  exact ⟨by decide, by decide, dec_no10 _, by decide, dec_no10 _⟩
theorem lineL_no32 (p : Ly) : (32 : UInt8) ∉ lineL p := by
  unfold lineL
  rw [List.mem_append, not_or]
  refine ⟨not_dec (by decide) _, ?_⟩
  split <;> simp
theorem layerLine_words (p : Ly) : splitB 32 (layerLine p) = [wLayer, lineL p] := by
  unfold layerLine
  rw [splitB_cut _ _ (by decide), splitB_one _ (lineL_no32 _)]
theorem layerLine_no10 (p : Ly) : (10 : UInt8) ∉ layerLine p := by
  unfold layerLine
  simp only [List.mem_append, List.mem_cons, not_or]
  exact ⟨by decide, by decide, lineL_no p⟩
theorem coreB_take {l : List Pc} (h : coreB l = true) (k : Nat) : coreB (l.take k) = true := by
  obtain ⟨h1, h2⟩ := (coreB_iff l).1 h
  exact (coreB_iff _).2 ⟨coreFrom_take k h1, by rw [List.length_take]; omega⟩
theorem layB_take {l : List Ly} (h : layB l = true) (k : Nat) : layB (l.take k) = true := by
  obtain ⟨h1, h2⟩ := (layB_iff l).1 h
  exact (layB_iff _).2 ⟨layFrom_take k h1, by rw [List.length_take]; omega⟩
theorem pc_dig {l : List Pc} (h : coreB l = true) {p : Pc} (hp : p ∈ l) : (dig (dec p.1.toNat), dig (dec p.2.toNat)) = p := by
  have := coreFrom_mem ((coreB_iff l).1 h).1 p hp
  unfold dec
  rw [dig_dec (by omega), dig_dec (by omega)]
  exact Prod.ext (by simp; omega) (by simp; omega)
theorem line_piece (s : St) (a b : List UInt8) : lineX s [wPiece, a, b] = addPiece s (dig a) (dig b) := by
  show (if wPiece = wPiece then addPiece s (dig a) (dig b) else if wPiece = wCount then (s, twoT (countL s.lays (dig a) (dig b))) else (s, whatT)) = _
  rw [if_pos rfl]
theorem line_layer (s : St) (a : List UInt8) : lineX s [wLayer, a] = addLayer s a := by
  show (if wLayer = wCut then setCore s (coreCutL s.core (dig a)) else if wLayer = wLayer then addLayer s a else if wLayer = wAge then (s, twoT (countL s.lays 0 (dig a))) else if wLayer = wYear then (s, yearLine (dig a)) else (s, whatT)) = _
  rw [if_neg (by decide), if_pos rfl]
theorem run_pieces {l : List Pc} (h : coreB l = true) : runX st0 (l.map pieceLine) = (⟨l, []⟩, okLinesT l.length) := by
  have key : ∀ k, k ≤ l.length → runX st0 ((l.take k).map pieceLine) = (⟨l.take k, []⟩, okLinesT k) := by
    intro k
    induction k with
    | zero => intro _; rfl
    | succ k ih =>
      intro hk
      have hx : l[k]? = some l[k] := List.getElem?_eq_getElem (by omega)
      have hc := coreB_take h (k + 1)
      have hd := pc_dig h (List.getElem_mem (show k < l.length by omega))
      rw [take_snoc hx] at hc ⊢
      rw [List.map_append, List.map_singleton, runX_one, ih (by omega), pieceLine_words]
      have e : lineX ⟨l.take k, []⟩ [wPiece, dec l[k].1.toNat, dec l[k].2.toNat] = (⟨l.take k ++ [l[k]], []⟩, okT) := by
        rw [line_piece]
        unfold addPiece
        simp only [hd]
        rw [if_pos hc]
      rw [e]
      simp only [okLinesT_succ]
      rfl
  have := key l.length (Nat.le_refl _)
  rwa [List.take_length] at this
theorem run_layers {l : List Ly} (c : List Pc) (h : layB l = true) : runX ⟨c, []⟩ (l.map layerLine) = (⟨c, l⟩, okLinesT l.length) := by
  have key : ∀ k, k ≤ l.length → runX ⟨c, []⟩ ((l.take k).map layerLine) = (⟨c, l.take k⟩, okLinesT k) := by
    intro k
    induction k with
    | zero => intro _; rfl
    | succ k ih =>
      intro hk
      have hx : l[k]? = some l[k] := List.getElem?_eq_getElem (by omega)
      have hc := layB_take h (k + 1)
      have hd := lyOf_line (p := l[k]) (by have := layFrom_mem ((layB_iff l).1 h).1 _ (List.getElem_mem (show k < l.length by omega)); omega)
      rw [take_snoc hx] at hc ⊢
      rw [List.map_append, List.map_singleton, runX_one, ih (by omega), layerLine_words]
      have e : lineX ⟨c, l.take k⟩ [wLayer, lineL l[k]] = (⟨c, l.take k ++ [l[k]]⟩, okT) := by
        rw [line_layer]
        unfold addLayer layerOf
        simp only [hd]
        rw [if_pos hc]
      rw [e]
      simp only [okLinesT_succ]
      rfl
  have := key l.length (Nat.le_refl _)
  rwa [List.take_length] at this
theorem linesX_linesT (L : List (List UInt8)) (h : ∀ w ∈ L, (10 : UInt8) ∉ w) : linesX (linesT L) = L := (linesX_flat L h).1
theorem linesT_append (a b : List (List UInt8)) : linesT (a ++ b) = linesT a ++ linesT b := by unfold linesT; rw [List.flatMap_append]
theorem exec_lines (L : List (List UInt8)) (h : ∀ w ∈ L, (10 : UInt8) ∉ w) (hl : (linesT L).length ≤ 500) : execT (linesT L) = (runX st0 L).2 ++ endT (runX st0 L).1 := by
  rw [execT_short hl, linesX_linesT L h]
theorem pieceLine_len {l : List Pc} (h : coreB l = true) {p : Pc} (hp : p ∈ l) : (pieceLine p).length ≤ 17 := by
  have := coreFrom_mem ((coreB_iff l).1 h).1 p hp
  have a1 := dec_len 4 p.1.toNat (by omega)
  have a2 := dec_len 4 p.2.toNat (by omega)
  unfold pieceLine dec wPiece
  simp only [List.length_append, List.length_cons, List.length_nil]
  omega
theorem layerLine_len {l : List Ly} (h : layB l = true) {p : Ly} (hp : p ∈ l) : (layerLine p).length ≤ 12 := by
  have := layFrom_mem ((layB_iff l).1 h).1 p hp
  have a1 := dec_len 4 p.1.toNat (by omega)
  unfold layerLine lineL wLayer
  simp only [List.length_append, List.length_cons, List.length_nil]
  split <;> simp <;> omega
theorem linesT_len (L : List (List UInt8)) (m : Nat) (h : ∀ w ∈ L, w.length ≤ m) : (linesT L).length ≤ (m + 1) * L.length := by
  induction L with
  | nil => simp [linesT]
  | cons w L ih =>
    have e : linesT (w :: L) = (w ++ [10]) ++ linesT L := rfl
    have := ih (fun x hx => h x (List.mem_cons_of_mem _ hx))
    have := h w List.mem_cons_self
    rw [e, List.length_append, List.length_append, show (w :: L).length = L.length + 1 from rfl, Nat.mul_add]
    simp only [List.length_cons, List.length_nil, Nat.mul_one]
    omega
end Go.Proofs.YtefadlbfkhndfaaGreatDoor

/-
  Plain laws on scripts: what the scripts of the laws answer.
-/
namespace Go.Proofs.YtefadlbfkhndfaaGreatDoor
open Go.RowKit
set_option linter.unusedSimpArgs false
set_option linter.unusedVariables false

theorem line1 (s : St) (c : List UInt8) : lineX s [c] = (if c = wJoin then (if coreB s.core = true then ({ s with core := joinL s.core }, okT) else (s, noT)) else if c = wCore then (s, coreT s.core) else if c = wLength then (s, dec (coreLen s.core).toNat) else (s, whatT)) := rfl
theorem line2 (s : St) (c a : List UInt8) : lineX s [c, a] = (if c = wCut then setCore s (coreCutL s.core (dig a)) else if c = wLayer then addLayer s a else if c = wAge then (s, twoT (countL s.lays 0 (dig a))) else if c = wYear then (s, yearLine (dig a)) else (s, whatT)) := rfl
theorem line3 (s : St) (c a b : List UInt8) : lineX s [c, a, b] = (if c = wPiece then addPiece s (dig a) (dig b) else if c = wCount then (s, twoT (countL s.lays (dig a) (dig b))) else (s, whatT)) := rfl
theorem line_cut (s : St) (a : List UInt8) : lineX s [wCut, a] = setCore s (coreCutL s.core (dig a)) := by rw [line2, if_pos rfl]
theorem line_join (s : St) : lineX s [wJoin] = (if coreB s.core = true then ({ s with core := joinL s.core }, okT) else (s, noT)) := by rw [line1, if_pos rfl]
theorem line_count (s : St) (a b : List UInt8) : lineX s [wCount, a, b] = (s, twoT (countL s.lays (dig a) (dig b))) := by rw [line3, if_neg (by decide), if_pos rfl]
theorem line_age (s : St) (a : List UInt8) : lineX s [wAge, a] = (s, twoT (countL s.lays 0 (dig a))) := by rw [line2, if_neg (by decide), if_neg (by decide), if_pos rfl]
theorem line_year (s : St) (a : List UInt8) : lineX s [wYear, a] = (s, yearLine (dig a)) := by rw [line2, if_neg (by decide), if_neg (by decide), if_neg (by decide), if_pos rfl]
theorem line_core (s : St) : lineX s [wCore] = (s, coreT s.core) := by rw [line1, if_neg (by decide), if_pos rfl]
theorem line_length (s : St) : lineX s [wLength] = (s, dec (coreLen s.core).toNat) := by rw [line1, if_neg (by decide), if_neg (by decide), if_pos rfl]
theorem dig_decB {u : Nat} (h : u ≤ 999999) : dig (dec u) = u := by
  unfold dig dec
  rw [if_pos ⟨dec_pos u, dec_len 5 u (by omega)⟩, decFrom_dec]
theorem ws_one {c : List UInt8} (hc : (32 : UInt8) ∉ c) (n : Nat) : splitB 32 (c ++ 32 :: dec n) = [c, dec n] := by rw [splitB_cut _ _ hc, splitB_one _ (dec_no32 _)]
theorem ws_two {c : List UInt8} (hc : (32 : UInt8) ∉ c) (n m : Nat) : splitB 32 (c ++ 32 :: (dec n ++ 32 :: dec m)) = [c, dec n, dec m] := by rw [splitB_cut _ _ hc, splitB_cut _ _ (dec_no32 _), splitB_one _ (dec_no32 _)]
theorem no10_one {c : List UInt8} (hc : (10 : UInt8) ∉ c) (n : Nat) : (10 : UInt8) ∉ c ++ 32 :: dec n := by
  simp only [List.mem_append, List.mem_cons, not_or]
  exact ⟨hc, by decide, dec_no10 _⟩
theorem no10_two {c : List UInt8} (hc : (10 : UInt8) ∉ c) (n m : Nat) : (10 : UInt8) ∉ c ++ 32 :: (dec n ++ 32 :: dec m) := by
  simp only [List.mem_append, List.mem_cons, not_or]
  exact ⟨hc, by decide, dec_no10 _, by decide, dec_no10 _⟩
theorem pieces_no10 (l : List Pc) (r : List (List UInt8)) (hr : ∀ w ∈ r, (10 : UInt8) ∉ w) : ∀ w ∈ l.map pieceLine ++ r, (10 : UInt8) ∉ w := by
  intro w hw
  rcases List.mem_append.1 hw with h | h
  · obtain ⟨p, _, rfl⟩ := List.mem_map.1 h
    exact pieceLine_no10 p
  · exact hr w h
theorem layers_no10 (l : List Ly) (r : List (List UInt8)) (hr : ∀ w ∈ r, (10 : UInt8) ∉ w) : ∀ w ∈ l.map layerLine ++ r, (10 : UInt8) ∉ w := by
  intro w hw
  rcases List.mem_append.1 hw with h | h
  · obtain ⟨p, _, rfl⟩ := List.mem_map.1 h
    exact layerLine_no10 p
  · exact hr w h
theorem pieces_len {l : List Pc} (h : coreB l = true) : (linesT (l.map pieceLine)).length ≤ 360 := by
  have := linesT_len (l.map pieceLine) 17 (fun w hw => by obtain ⟨p, hp, rfl⟩ := List.mem_map.1 hw; exact pieceLine_len h hp)
  rw [List.length_map] at this
  have := ((coreB_iff l).1 h).2
  omega
theorem layers_len {l : List Ly} (h : layB l = true) (h9 : l.length ≤ 20) : (linesT (l.map layerLine)).length ≤ 260 := by
  have := linesT_len (l.map layerLine) 12 (fun w hw => by obtain ⟨p, hp, rfl⟩ := List.mem_map.1 hw; exact layerLine_len h hp)
  rw [List.length_map] at this
  omega
theorem run_two (s : St) (a b : List UInt8) : runX s [a, b] = ((lineX (lineX s (splitB 32 a)).1 (splitB 32 b)).1, (lineX s (splitB 32 a)).2 ++ 10 :: ((lineX (lineX s (splitB 32 a)).1 (splitB 32 b)).2 ++ [10])) := rfl
theorem run_1 (s : St) (a : List UInt8) : runX s [a] = ((lineX s (splitB 32 a)).1, (lineX s (splitB 32 a)).2 ++ [10]) := rfl

/-- A core that is told. -/
theorem exec_core {l : List Pc} (h : coreB l = true) : execT (linesT (l.map pieceLine) ++ (wCore ++ 10 :: (wLength ++ [10]))) =
    okLinesT l.length ++ (coreT l ++ 10 :: (dec (coreLen l).toNat ++ [10])) ++ endT ⟨l, []⟩ := by
  have e : linesT (l.map pieceLine) ++ (wCore ++ 10 :: (wLength ++ [10])) = linesT (l.map pieceLine ++ [wCore, wLength]) := by rw [linesT_append]; simp [linesT]
  rw [e, exec_lines _ (pieces_no10 l _ (by decide)) (by rw [← e, List.length_append]; have := pieces_len h; simp [wCore, wLength]; omega), runX_append, run_pieces h, run_two]
  have e1 : splitB 32 wCore = [wCore] := by decide
  have e2 : splitB 32 wLength = [wLength] := by decide
  rw [e1, e2]
  rfl
/-- A core that is cut. -/
theorem exec_cut {l l' : List Pc} {d : Nat} (h : coreB l = true) (hd : d ≤ 30000) (hc : coreCutL l d = some l') : execT (linesT (l.map pieceLine) ++ ((wCut ++ 32 :: dec d) ++ 10 :: (wCore ++ [10]))) =
    okLinesT (l.length + 1) ++ (coreT l' ++ [10]) ++ endT ⟨l', []⟩ := by
  have e : linesT (l.map pieceLine) ++ ((wCut ++ 32 :: dec d) ++ 10 :: (wCore ++ [10])) = linesT (l.map pieceLine ++ [wCut ++ 32 :: dec d, wCore]) := by rw [linesT_append]; simp [linesT]
  have hl : (dec d).length ≤ 5 := dec_len 4 d (by omega)
  rw [e, exec_lines _ (pieces_no10 l _ (by
    intro w hw
    simp only [List.mem_cons, List.mem_nil_iff, or_false] at hw
    rcases hw with rfl | rfl
    · exact no10_one (by decide) d
    · decide)) (by rw [← e, List.length_append]; have := pieces_len h; simp [wCore, wCut]; omega), runX_append, run_pieces h, run_two]
  have e2 : splitB 32 wCore = [wCore] := by decide
  rw [ws_one (by decide) d, e2]
  have e3 : lineX ⟨l, []⟩ [wCut, dec d] = (⟨l', []⟩, okT) := by
    rw [line_cut, dig_decB (by omega), hc]
    rfl
  rw [e3]
  have e4 : lineX ⟨l', []⟩ [wCore] = (⟨l', []⟩, coreT l') := rfl
  simp only [e4, okLinesT_succ]
  simp [okT]
/-- A core that is joined. -/
theorem exec_join {l : List Pc} (h : coreB l = true) : execT (linesT (l.map pieceLine) ++ (wJoin ++ 10 :: (wCore ++ [10]))) =
    okLinesT (l.length + 1) ++ (coreT (joinL l) ++ [10]) ++ endT ⟨joinL l, []⟩ := by
  have e : linesT (l.map pieceLine) ++ (wJoin ++ 10 :: (wCore ++ [10])) = linesT (l.map pieceLine ++ [wJoin, wCore]) := by rw [linesT_append]; simp [linesT]
  rw [e, exec_lines _ (pieces_no10 l _ (by decide)) (by rw [← e, List.length_append]; have := pieces_len h; simp [wCore, wJoin]; omega), runX_append, run_pieces h, run_two]
  have e1 : splitB 32 wJoin = [wJoin] := by decide
  have e2 : splitB 32 wCore = [wCore] := by decide
  rw [e1, e2]
  have e3 : lineX ⟨l, []⟩ [wJoin] = (⟨joinL l, []⟩, okT) := by
    rw [line_join, if_pos h]
  rw [e3]
  have e4 : lineX ⟨joinL l, []⟩ [wCore] = (⟨joinL l, []⟩, coreT (joinL l)) := rfl
  simp only [e4, okLinesT_succ]
  simp [okT]
/-- Layers, and one more that is not deeper. -/
theorem layB_twice {l : List Ly} {p : Ly} (h : l.getLast? = some p) : layB (l ++ [p]) = false := by
  obtain ⟨l', rfl⟩ := List.getLast?_eq_some_iff.1 h
  cases hB : layB (l' ++ [p] ++ [p]) with
  | false => rfl
  | true =>
    have hF := layFrom_drop l'.length ((layB_iff _).1 hB).1
    rw [List.append_assoc, List.drop_left] at hF
    simp only [List.cons_append, List.nil_append] at hF
    rw [layFrom_cons, layFrom_cons] at hF
    omega
theorem exec_layer {l : List Ly} {p : Ly} (h : layB l = true) (h9 : l.length ≤ 20) (hp : l.getLast? = some p) : execT (linesT (l.map layerLine) ++ (layerLine p ++ [10])) = okLinesT l.length ++ (noT ++ [10]) ++ endT ⟨[], l⟩ := by
  have e : linesT (l.map layerLine) ++ (layerLine p ++ [10]) = linesT (l.map layerLine ++ [layerLine p]) := by rw [linesT_append]; simp [linesT]
  have hm : p ∈ l := List.mem_of_getLast? hp
  rw [e, exec_lines _ (layers_no10 l _ (by
    intro w hw
    rw [List.mem_singleton.1 hw]; exact layerLine_no10 p)) (by rw [← e, List.length_append]; have := layers_len h h9; have := layerLine_len h hm; simp; omega), runX_append]
  rw [show st0 = (⟨[], []⟩ : St) from rfl, run_layers [] h, run_1, layerLine_words]
  have hd := lyOf_line (p := p) (by have := layFrom_mem ((layB_iff l).1 h).1 _ hm; omega)
  have e3 : lineX ⟨[], l⟩ [wLayer, lineL p] = (⟨[], l⟩, noT) := by
    rw [line_layer]
    unfold addLayer layerOf
    simp only [hd]
    rw [if_neg (by rw [layB_twice hp]; simp)]
  rw [e3]
theorem exec_layers {l : List Ly} {w : List UInt8} (h : layB l = true) (h9 : l.length ≤ 20) (hw : (10 : UInt8) ∉ w) (hl : w.length ≤ 200) : execT (linesT (l.map layerLine) ++ (w ++ [10])) =
    okLinesT l.length ++ ((lineX ⟨[], l⟩ (splitB 32 w)).2 ++ [10]) ++ endT (lineX ⟨[], l⟩ (splitB 32 w)).1 := by
  have e : linesT (l.map layerLine) ++ (w ++ [10]) = linesT (l.map layerLine ++ [w]) := by rw [linesT_append]; simp [linesT]
  rw [e, exec_lines _ (layers_no10 l _ (by
    intro x hx
    rw [List.mem_singleton.1 hx]; exact hw)) (by rw [← e, List.length_append]; have := layers_len h h9; simp; omega), runX_append]
  rw [show st0 = (⟨[], []⟩ : St) from rfl, run_layers [] h, run_1]
theorem exec_count {l : List Ly} {t b : Nat} {r : Nat × Nat} (h : layB l = true) (h9 : l.length ≤ 20) (ht : t ≤ 30000) (hb : b ≤ 30000) (hc : countL l t b = some r) :
    execT (linesT (l.map layerLine) ++ ((wCount ++ 32 :: (dec t ++ 32 :: dec b)) ++ [10])) = okLinesT l.length ++ (dec r.1 ++ 32 :: dec r.2 ++ [10]) ++ endT ⟨[], l⟩ := by
  have h1 : (dec t).length ≤ 5 := dec_len 4 t (by omega)
  have h2 : (dec b).length ≤ 5 := dec_len 4 b (by omega)
  rw [exec_layers h h9 (no10_two (by decide) t b) (by simp [wCount]; omega), ws_two (by decide) t b]
  have e3 : lineX ⟨[], l⟩ [wCount, dec t, dec b] = (⟨[], l⟩, twoT (countL l t b)) := by
    rw [line_count, dig_decB (by omega), dig_decB (by omega)]
  rw [e3, hc]
  rfl
theorem exec_age {l : List Ly} {d : Nat} {r : Nat × Nat} (h : layB l = true) (h9 : l.length ≤ 20) (hd : d ≤ 30000) (hc : countL l 0 d = some r) :
    execT (linesT (l.map layerLine) ++ ((wAge ++ 32 :: dec d) ++ [10])) = okLinesT l.length ++ (dec r.1 ++ 32 :: dec r.2 ++ [10]) ++ endT ⟨[], l⟩ := by
  have h1 : (dec d).length ≤ 5 := dec_len 4 d (by omega)
  rw [exec_layers h h9 (no10_one (by decide) d) (by simp [wAge]; omega), ws_one (by decide) d]
  have e3 : lineX ⟨[], l⟩ [wAge, dec d] = (⟨[], l⟩, twoT (countL l 0 d)) := by
    rw [line_age, dig_decB (by omega)]
  rw [e3, hc]
  rfl
theorem exec_year {a : Nat} (ha : a ≤ 202000) : execT ((wYear ++ 32 :: dec a) ++ [10]) = (yearT (2000 - a) ++ [10]) ++ endT st0 := by
  have h1 : (dec a).length ≤ 6 := dec_len 5 a (by omega)
  have e := execT_add (r := []) (w := wYear ++ 32 :: dec a) (.inl rfl) (no10_one (by decide) a) (by simp [wYear]; omega)
  rw [List.nil_append] at e
  rw [e, ws_one (by decide) a]
  have e3 : lineX (runX st0 (linesX [])).1 [wYear, dec a] = (st0, yearLine a) := by
    rw [line_year, dig_decB (by omega)]
    rfl
  rw [e3]
  unfold yearLine
  rw [if_pos (by omega)]
  rfl
end Go.Proofs.YtefadlbfkhndfaaGreatDoor

/-
  Plain words on the layers between two depths.
-/
namespace Go.Proofs.YtefadlbfkhndfaaGreatDoor
open Go.RowKit
set_option linter.unusedSimpArgs false
set_option linter.unusedVariables false

def oA : Option (Nat × Nat) → Int
  | some p => p.1
  | none => 0
def oB : Option (Nat × Nat) → Int
  | some p => p.2
  | none => 0
theorem cnt_step {l : List Ly} {k : Nat} {x : Int} {s : Bool} (t b : Int) (h : l[k]? = some (x, s)) :
    cntAll t b (l.take (k + 1)) = cntAll t b (l.take k) + (if t ≤ x ∧ x < b then 1 else 0) ∧ cntSure t b (l.take (k + 1)) = cntSure t b (l.take k) + (if (t ≤ x ∧ x < b) ∧ s = true then 1 else 0) := by
  unfold cntAll cntSure
  rw [take_snoc h, List.countP_append, List.countP_append, List.countP_singleton, List.countP_singleton]
  constructor
  · congr 1
    by_cases h1 : t ≤ x ∧ x < b <;> simp [h1]
  · congr 1
    by_cases h1 : t ≤ x ∧ x < b <;> cases s <;> simp [h1]
theorem cnt_out {l : List Ly} {k : Nat} {x : Int} {s : Bool} {t b : Int} (h : l[k]? = some (x, s)) (ho : ¬ (t ≤ x ∧ x < b)) : cntAll t b (l.take (k + 1)) = cntAll t b (l.take k) ∧ cntSure t b (l.take (k + 1)) = cntSure t b (l.take k) := by
  obtain ⟨h1, h2⟩ := cnt_step t b h
  rw [h1, h2, if_neg ho, if_neg (fun e => ho e.1)]
  exact ⟨rfl, rfl⟩
theorem cnt_sure {l : List Ly} {k : Nat} {x : Int} {t b : Int} (h : l[k]? = some (x, true)) (ho : t ≤ x ∧ x < b) : cntAll t b (l.take (k + 1)) = cntAll t b (l.take k) + 1 ∧ cntSure t b (l.take (k + 1)) = cntSure t b (l.take k) + 1 := by
  obtain ⟨h1, h2⟩ := cnt_step t b h
  rw [h1, h2, if_pos ho, if_pos ⟨ho, rfl⟩]
  exact ⟨rfl, rfl⟩
theorem cnt_unsure {l : List Ly} {k : Nat} {x : Int} {t b : Int} (h : l[k]? = some (x, false)) (ho : t ≤ x ∧ x < b) : cntAll t b (l.take (k + 1)) = cntAll t b (l.take k) + 1 ∧ cntSure t b (l.take (k + 1)) = cntSure t b (l.take k) := by
  obtain ⟨h1, h2⟩ := cnt_step t b h
  rw [h1, h2, if_pos ho, if_neg (by simp)]
  exact ⟨rfl, rfl⟩
theorem countL_bd (l : List Ly) (t b : Int) (h : l.length ≤ 1000) : (0 ≤ oA (countL l t b) ∧ oA (countL l t b) ≤ 1000000) ∧ 0 ≤ oB (countL l t b) ∧ oB (countL l t b) ≤ 1000000 := by
  unfold countL
  have h1 : cntAll t b l ≤ l.length := List.countP_le_length
  have h2 : cntSure t b l ≤ l.length := List.countP_le_length
  split
  · simp only [oA, oB]; omega
  · simp only [oA, oB]; omega
theorem twoT_if (o : Option (Nat × Nat)) : (if o.isSome = true then dec (oA o).toNat ++ 32 :: dec (oB o).toNat else noT) = twoT o := by
  cases o with
  | none => rfl
  | some p => rfl
theorem twoT_len {o : Option (Nat × Nat)} (h : (0 ≤ oA o ∧ oA o ≤ 1000000) ∧ 0 ≤ oB o ∧ oB o ≤ 1000000) : (twoT o).length ≤ 1000 := by
  cases o with
  | none => decide
  | some p =>
    simp only [oA, oB] at h
    have h1 : (dec p.1).length ≤ 7 := dec_len 6 p.1 (by omega)
    have h2 : (dec p.2).length ≤ 7 := dec_len 6 p.2 (by omega)
    show (dec p.1 ++ 32 :: dec p.2).length ≤ 1000
    simp
    omega
/-- The least and the greatest age at a depth. -/
def ageL (l : List Ly) (a d : Int) : Option (Int × Int) := if -400000 ≤ a ∧ a ≤ 400000 then (countL l 0 d).map fun p => (a + p.1, a + p.2) else none
def oC : Option (Int × Int) → Int
  | some p => p.1
  | none => 0
def oD : Option (Int × Int) → Int
  | some p => p.2
  | none => 0
theorem ageL_zero (l : List Ly) (d : Int) : oC (ageL l 0 d) = oA (countL l 0 d) ∧ oD (ageL l 0 d) = oB (countL l 0 d) ∧ (ageL l 0 d).isSome = (countL l 0 d).isSome := by
  unfold ageL
  rw [if_pos (by decide)]
  cases countL l 0 d with
  | none => exact ⟨rfl, rfl, rfl⟩
  | some p => simp [oA, oB, oC, oD]
end Go.Proofs.YtefadlbfkhndfaaGreatDoor

/-
  The map of the words that a script knows, as a datum; what it holds.
-/
namespace Go.Proofs.YtefadlbfkhndfaaGreatDoor
open Go.RowKit Go.Maps
set_option linter.unusedSimpArgs false
set_option linter.unusedVariables false

def wants : List (List UInt8 × Int) := [(wPiece, 2), (wCut, 1), (wJoin, 0), (wLayer, 1), (wCore, 0), (wLength, 0), (wCount, 2), (wAge, 1), (wYear, 1)]
def putW (D : DataW Unit) (p : List UInt8 × Int) : DataW Unit := D.put (.string p.1) (.lit (.int .i64 p.2))
def wantD : DataW Unit := wants.foldl putW (.map [])
def wantOf (x : List UInt8) : Option Int := (wants.find? fun p => decide (p.1 = x)).map (·.2)
theorem isMap_putW {D : DataW Unit} (h : IsMap D) (p : List UInt8 × Int) : IsMap (putW D p) := h.put _ _
theorem want_no {x : List UInt8} : ∀ (L : List (List UInt8 × Int)) (D : DataW Unit), (∀ p ∈ L, p.1 ≠ x) → Maps.has (L.foldl putW D) (.string x) = Maps.has D (.string x) := by
  intro L
  induction L with
  | nil => intro D _; rfl
  | cons p L ih =>
    intro D h
    rw [List.foldl_cons, ih _ (fun q hq => h q (List.mem_cons_of_mem _ hq))]
    exact has_put_other (fun e => h p List.mem_cons_self (by injection e with e; exact e.symm)) _
theorem wantOf_none {x : List UInt8} (h : wantOf x = none) : Maps.has wantD (.string x) = false := by
  unfold wantOf at h
  rw [Option.map_eq_none_iff, List.find?_eq_none] at h
  unfold wantD
  rw [want_no wants _ (fun p hp e => h p hp (by simpa using e))]
  rfl
theorem wantOf_some {x : List UInt8} {k : Int} (h : wantOf x = some k) : (x = wPiece ∧ k = 2) ∨ (x = wCut ∧ k = 1) ∨ (x = wJoin ∧ k = 0) ∨ (x = wLayer ∧ k = 1) ∨ (x = wCore ∧ k = 0) ∨ (x = wLength ∧ k = 0) ∨ (x = wCount ∧ k = 2) ∨ (x = wAge ∧ k = 1) ∨ (x = wYear ∧ k = 1) := by
  unfold wantOf at h
  obtain ⟨p, hp, rfl⟩ := Option.map_eq_some_iff.1 h
  have h1 := List.mem_of_find?_eq_some hp
  have h2 := List.find?_some hp
  simp only [decide_eq_true_eq] at h2
  subst h2
  simp only [wants, List.mem_cons, List.mem_nil_iff, or_false] at h1
  rcases h1 with rfl | rfl | rfl | rfl | rfl | rfl | rfl | rfl | rfl <;> simp
theorem want_has {x : List UInt8} {k : Int} (h : wantOf x = some k) : Maps.has wantD (.string x) = true ∧ wantD.atKey (.string x) (.lit (.int .i64 0)) = .lit (.int .i64 k) := by
  rcases wantOf_some h with ⟨rfl, rfl⟩ | ⟨rfl, rfl⟩ | ⟨rfl, rfl⟩ | ⟨rfl, rfl⟩ | ⟨rfl, rfl⟩ | ⟨rfl, rfl⟩ | ⟨rfl, rfl⟩ | ⟨rfl, rfl⟩ | ⟨rfl, rfl⟩ <;> exact ⟨rfl, rfl⟩
/-- A line that no word begins, or that has too many or too few words. -/
theorem lineX_what {s : St} {c : List UInt8} {r : List (List UInt8)} (h : ∀ k, wantOf c = some k → k ≠ (r.length : Int)) : lineX s (c :: r) = (s, whatT) := by
  have key : ∀ (w : List UInt8) (k : Int), wantOf w = some k → k = (r.length : Int) → c ≠ w := fun w k hk hr e => h k (by rw [e]; exact hk) hr
  match r, key with
  | [], key =>
    simp only [lineX]
    rw [if_neg (key wJoin 0 rfl rfl), if_neg (key wCore 0 rfl rfl), if_neg (key wLength 0 rfl rfl)]
  | [a], key =>
    simp only [lineX]
    rw [if_neg (key wCut 1 rfl rfl), if_neg (key wLayer 1 rfl rfl), if_neg (key wAge 1 rfl rfl), if_neg (key wYear 1 rfl rfl)]
  | [a, b], key =>
    simp only [lineX]
    rw [if_neg (key wPiece 2 rfl rfl), if_neg (key wCount 2 rfl rfl)]
  | _ :: _ :: _ :: _, _ => rfl
/-- A store of a map's literal, at the operation. -/
theorem wpList_insert_own {H : Type} {P : Program} (w : World) {ops : Array Oper} {rest : List Oper} {o : Oper} {a : Act} {Q : Exit → Act → World → Prop}
    (hg : o.guard = none) (m x v : Operand) (t : TypeId) (hop : o.op = Op.insert t m x v)
    (k e : TypeId) (K : Keyed P k) (ht : P.underlying t = some (.map k e)) (R : Value → Option (DataW H × List MemPlace)) (b n : Nat) (D D' : DataW H)
    (hm : a.eval m = .map (some b)) (hown : w.ownsMap P k R b n D) (hn : n < maxLen) (key val : Value) (kl : Lit) (hx : a.eval x = key) (hv : a.eval v = val) (hkey : keyOf P k key = some kl)
    (d : DataW H) (ps : List MemPlace) (hval : R val = some (d, ps)) (hD : D.put kl d = D')
    (hK : ∀ w', w'.ownsMap P k R b (n + 1) D' → w.grownBy w' (some b) → wpList P ops Q rest (a.put o.dst undef) w') :
    wpList P ops Q (o :: rest) a w := by
  subst hD
  refine wpList_plain hg fun K' hK' => ?_
  obtain ⟨w', hrun, r1, r2⟩ := hown.update K ht hn hkey hval
  unfold Oper.wp
  simp [execOp, hop, hm, hx, hv, hrun, Result.andThen]
  exact hK' _ _ (hK w' r1 r2)
def wD (i : Nat) : DataW Unit := (wants.take i).foldl putW (.map [])
theorem wD_step {i : Nat} {p : List UInt8 × Int} (h : wants[i]? = some p) : (wD i).put (.string p.1) (.lit (.int .i64 p.2)) = wD (i + 1) := by
  unfold wD
  rw [List.take_add_one, h, List.foldl_append]
  rfl
theorem wD_all : wD 9 = wantD := rfl
end Go.Proofs.YtefadlbfkhndfaaGreatDoor

/-
  Contracts: CoreLength of the program and of the reference.
-/
namespace Go.Proofs.YtefadlbfkhndfaaGreatDoor
open Go.RowKit
set_option linter.unusedSimpArgs false
set_option linter.unusedVariables false

set_option maxHeartbeats 400000 in
theorem implCoreLength_any (A : Option Addr) (n c : Nat) (l : List Pc) (w : World) (h : Arr PP 2 w w.heap.size A n l) (hn : n ≤ 1099511627776) :
    Calls Tryz.prog 79 #[.slice A n c] w fun e w' => e = .returned (.int .i64 (coreLen l)) ∧ Below w.heap.size w w' := by
  have hln := Lib.hid h.1
  have C := implCoreValid_any A n c l w h hn
  cases hB : coreB l with
  | false =>
    rw [hB] at C
    have C' := Lib.hid C
    have hL := Lib.hid (coreLen_bad hB)
    clear C hB
    go_enter Tryz.func79, Tryz.ntmps79
    go_wp2_with fail
    refine C'.out.mono ?_
    rintro e w1 ⟨rfl, hb⟩
    go_wp2
    go_ret
    exact ⟨ret_int hL.out.symm, hb⟩
  | true =>
    rw [hB] at C
    have C' := Lib.hid C
    have hL := Lib.hid (coreLen_good hB)
    have hF := Lib.hid ((coreB_iff l).1 hB).1
    clear C hB
    go_enter Tryz.func79, Tryz.ntmps79
    go_wp2_with fail
    refine C'.out.mono ?_
    rintro e w1 ⟨rfl, hb1⟩
    clear C'
    go_wp2
    go_loopw [3, 11] (fun s i wr => ∃ k : Nat, k ≤ n ∧ i = .int .i64 k ∧ s = .int .i64 (lenOf (l.take k)) ∧ Below w.heap.size w wr) (fun _ i _ => n - (intOf i).toNat)
    case atStart => exact ⟨0, Nat.zero_le _, rfl, rfl, hb1⟩
    case round =>
      obtain ⟨k, hk, rfl, rfl, hb⟩ := hrel
      by_cases hlt : k < n
      · obtain ⟨b, off, x, y, rfl, hbB, hx, c1, c2⟩ := h.pair hlt
        have c1' := (hb.cell (by exact hbB)).trans c1
        have c2' := (hb.cell (by exact hbB)).trans c2
        have hm := coreFrom_mem hF.out _ (List.mem_of_getElem? hx)
        have h0 : (0 : Int) ≤ x := hm.1
        have h1 : x < y := hm.2.1
        have h2 : y ≤ 30000 := hm.2.2
        have hS : Hid (lenOf (l.take (k + 1)) = lenOf (l.take k) + (y - x)) := by rw [List.take_add_one, hx]; exact lenOf_snoc _ _ _
        have hbd := lenOf_bd' (coreFrom_take k hF.out)
        obtain ⟨S, hSS⟩ : ∃ S, S = lenOf (l.take k) := ⟨_, rfl⟩
        rw [← hSS] at hS hbd ⊢
        clear hm hx c1 c2 hSS
        go_wp2
        go_roundw
        case rel => exact ⟨k + 1, by omega, by go_num, by rw [hS.out], hb.alloc (by have := hb.size; omega) _⟩
        case measure => simp [intOf]; omega
      · have htk : l.take k = l := List.take_of_length_le (by rw [hln.out]; omega)
        have ht := Lib.hid htk
        clear htk
        go_wp2
        go_ret
        exact ⟨ret_int (by rw [hL.out, ht.out]), hb⟩

theorem lenOf_take_succ {l : List Pc} {k : Nat} {x y : Int} (h : l[k]? = some (x, y)) : lenOf (l.take (k + 1)) = lenOf (l.take k) + (y - x) := by
  rw [take_snoc h, lenOf_snoc]

set_option maxHeartbeats 400000 in
theorem specCoreLength_any (A : Option Addr) (n c : Nat) (l : List Pc) (w : World) (h : Arr PP 2 w w.heap.size A n l) (hn : n ≤ 1099511627776) :
    Calls Tryz.prog 95 #[.slice A n c] w fun e w' => e = .returned (.int .i64 (coreLen l)) ∧ Below w.heap.size w w' := by
  have hln := Lib.hid h.1
  have C := specCoreValid_any A n c l w h hn
  cases hB : coreB l with
  | false =>
    rw [hB] at C
    have C' := Lib.hid C
    have hL := Lib.hid (coreLen_bad hB)
    clear C hB
    go_enter Tryz.func95, Tryz.ntmps95
    go_wp2_with fail
    refine C'.out.mono ?_
    rintro e w1 ⟨rfl, hb⟩
    go_wp2
    go_ret
    exact ⟨ret_int hL.out.symm, hb⟩
  | true =>
    rw [hB] at C
    have C' := Lib.hid C
    have hL := Lib.hid (coreLen_good hB)
    have hF := Lib.hid ((coreB_iff l).1 hB).1
    clear C hB
    go_enter Tryz.func95, Tryz.ntmps95
    go_wp2_with fail
    refine C'.out.mono ?_
    rintro e w1 ⟨rfl, hb1⟩
    clear C'
    go_wp2
    go_loopw [3, 4] (fun s i wr => ∃ k : Nat, k ≤ n ∧ i = .int .i64 k ∧ s = .int .i64 (lenOf (l.take k)) ∧ Below w.heap.size w wr) (fun _ i _ => n - (intOf i).toNat)
    case atStart => exact ⟨0, Nat.zero_le _, rfl, rfl, hb1⟩
    case round =>
      obtain ⟨k, hk, rfl, rfl, hb⟩ := hrel
      by_cases hlt : k < n
      · obtain ⟨b, off, x, y, rfl, hbB, hx, c1, c2⟩ := h.pair hlt
        have c1' := (hb.cell (by exact hbB)).trans c1
        have c2' := (hb.cell (by exact hbB)).trans c2
        have hm := coreFrom_mem hF.out _ (List.mem_of_getElem? hx)
        have h0 : (0 : Int) ≤ x := hm.1
        have h1 : x < y := hm.2.1
        have h2 : y ≤ 30000 := hm.2.2
        have hS := Lib.hid (lenOf_take_succ hx)
        have hbd := lenOf_bd' (coreFrom_take k hF.out)
        have hlt' : (k : Int) < (n : Int) := by omega
        obtain ⟨S, hSS⟩ : ∃ S, S = lenOf (l.take k) := ⟨_, rfl⟩
        rw [← hSS] at hS hbd ⊢
        have B1 : 0 ≤ S + y ∧ S + y ≤ 4611686018427387904 := by omega
        have B2 : 0 ≤ S + y - x ∧ S + y - x ≤ 4611686018427387904 := by omega
        clear hm hx c1 c2 hSS
        have e1 : wrap64 (S + y) = S + y := w64 B1
        have e2 : wrap64 (S + y - x) = S + y - x := w64 B2
        clear B1 B2
        go_wp2_with fail
        go_quiet (fail)
        clear e1 e2
        have hb2 := below_drewN hb nq
        go_wp2
        go_roundw
        case rel => exact ⟨k + 1, by omega, by go_num, by rw [hS.out]; first | go_num | (congr 1; omega), hb2⟩
        case measure => simp [intOf]; omega
      · have htk : l.take k = l := List.take_of_length_le (by rw [hln.out]; omega)
        have ht := Lib.hid htk
        clear htk
        go_wp2
        go_ret
        exact ⟨ret_int (by rw [hL.out, ht.out]), hb⟩

end Go.Proofs.YtefadlbfkhndfaaGreatDoor

/-
  Contracts: isYear, YearText, YearOf of the program.
-/
namespace Go.Proofs.YtefadlbfkhndfaaGreatDoor
open Go.RowKit
set_option linter.unusedSimpArgs false
set_option linter.unusedVariables false

def yearB (y : Int) : Bool := decide (-200000 ≤ y ∧ y ≤ 200000)
theorem isYear_any (x : Int) (r : Bool) (hr : yearB x = r) (w : World) : Calls Tryz.prog 104 #[.int .i64 x] w fun e w' => e = .returned (.bool r) ∧ w = w' := by
  unfold yearB at hr
  rcases (show x < -200000 ∨ (-200000 ≤ x ∧ 200000 < x) ∨ (-200000 ≤ x ∧ x ≤ 200000) by omega) with h | ⟨h, h2⟩ | ⟨h, h2⟩
  · rw [decide_eq_false (by omega)] at hr
    subst hr
    go_enter Tryz.func104, Tryz.ntmps104
    go_wp2
    go_ret
    exact ⟨rfl, rfl⟩
  · rw [decide_eq_false (by omega)] at hr
    subst hr
    go_enter Tryz.func104, Tryz.ntmps104
    go_wp2
    go_ret
    exact ⟨ret_bool (by simp; omega), rfl⟩
  · rw [decide_eq_true (by omega)] at hr
    subst hr
    go_enter Tryz.func104, Tryz.ntmps104
    go_wp2
    go_ret
    exact ⟨ret_bool (by simp; try omega), rfl⟩
theorem l1Year_any (x : Int) (r : Bool) (hr : yearB x = r) (w : World) : Calls Tryz.prog 124 #[.int .i64 x] w fun e w' => e = .returned (.bool r) ∧ w = w' := by
  have C := Lib.hid (l6In_any x (-200000) 200000 r hr)
  clear hr
  go_enter Tryz.func124, Tryz.ntmps124
  go_wp2_with fail
  refine (C.out _).mono ?_
  rintro e w' ⟨rfl, rfl⟩
  go_wp2
  go_ret
  exact ⟨rfl, rfl⟩
theorem yradd_at (a b c : ByteArray) (h : a.size + b.size ≤ 1000000) (hc : a ++ b = c) : ∀ W : World, (Op.stringOp .add a b).run Tryz.prog W = .ok (.string c) W := fun W => by
  rw [← hc]; exact run_string_add_sum (P := Tryz.prog) (w := W) a b (by omega)
theorem dec_sz {u : Nat} (h : u ≤ 10000000) : (tx (Lib.decDigits u)).size ≤ 8 := by rw [tx_size]; exact dec_len 7 u (by omega)

set_option maxHeartbeats 1000000 in
theorem implYearText_any (y : Int) (hy : -1000000000000 ≤ y ∧ y ≤ 1000000000000) (w : World) (hT : Tab w) :
    Calls Tryz.prog 82 #[.int .i64 y] w fun e w' => e = .returned (.string (tx (yearT y))) ∧ Below w.heap.size w w' := by
  obtain ⟨y0, y1⟩ := hy
  have HT := Lib.hid hT
  clear hT
  by_cases hr : -200000 ≤ y ∧ y ≤ 200000
  · have C := Lib.hid (isYear_any y true (by unfold yearB; exact decide_eq_true hr))
    by_cases hp : 0 < y
    · obtain ⟨u, rfl⟩ : ∃ u : Nat, y = u := ⟨y.toNat, by omega⟩
      have hu : u ≤ 10000000 := by omega
      have hE := Lib.hid (show tx (Lib.decDigits u) ++ tx [32, 67, 69] = tx (yearT u) by unfold yearT dec; rw [if_pos hr, if_pos hp, tx_add]; simp)
      have A1 : ∀ W : World, (Op.stringOp .add (tx (Lib.decDigits u)) ⟨#[32, 67, 69]⟩).run Tryz.prog W = .ok (.string (tx (yearT u))) W := yradd_at (tx (Lib.decDigits u)) (tx [32, 67, 69]) _ (by rw [tx_size [32, 67, 69]]; have := dec_sz hu; simp; omega) hE.out
      have K := Lib.hid (itoaB_any u hu w HT.out)
      obtain ⟨T, hTT⟩ : ∃ T, T = tx (yearT u) := ⟨_, rfl⟩
      rw [← hTT] at A1
      have HTT := Lib.hid hTT
      clear hTT hr
      go_enter Tryz.func82, Tryz.ntmps82
      go_wp2_with (first
        | (go_at_call 104; refine (C.out _).mono ?_; rintro e w' ⟨rfl, rfl⟩)
        | (go_at_call 47; refine K.out.mono ?_; rintro e w2 ⟨rfl, b2⟩))
      go_ret
      exact ⟨ret_str HTT.out, b2⟩
    · obtain ⟨u, hu0⟩ : ∃ u : Nat, 1 - y = u := ⟨(1 - y).toNat, by omega⟩
      have hu : u ≤ 10000000 := by omega
      have hE := Lib.hid (show tx (Lib.decDigits u) ++ tx [32, 66, 67, 69] = tx (yearT y) by unfold yearT dec; rw [if_pos hr, if_neg hp, tx_add, hu0]; simp)
      have A1 : ∀ W : World, (Op.stringOp .add (tx (Lib.decDigits u)) ⟨#[32, 66, 67, 69]⟩).run Tryz.prog W = .ok (.string (tx (yearT y))) W := yradd_at (tx (Lib.decDigits u)) (tx [32, 66, 67, 69]) _ (by rw [tx_size [32, 66, 67, 69]]; have := dec_sz hu; simp; omega) hE.out
      have K := Lib.hid (itoaB_any u hu w HT.out)
      obtain ⟨T, hTT⟩ : ∃ T, T = tx (yearT y) := ⟨_, rfl⟩
      rw [← hTT] at A1
      have HTT := Lib.hid hTT
      have e1 : IntKind.i64.wrap (1 - y) = (u : Int) := by rw [hu0]; exact IntWalk.i64_in _ ⟨by omega, by omega⟩
      clear hTT hr
      go_enter Tryz.func82, Tryz.ntmps82
      go_wp2_with (first
        | (go_at_call 104; refine (C.out _).mono ?_; rintro e w' ⟨rfl, rfl⟩)
        | (go_at_call 47; first | (refine K.out.mono ?_; rintro e w2 ⟨rfl, b2⟩) | (rw [hu0]; refine K.out.mono ?_; rintro e w2 ⟨rfl, b2⟩)))
      go_ret
      exact ⟨ret_str HTT.out, b2⟩
  · have C := Lib.hid (isYear_any y false (by unfold yearB; exact decide_eq_false hr))
    have hE := Lib.hid (show yearT y = [] by unfold yearT; rw [if_neg hr])
    clear hr
    go_enter Tryz.func82, Tryz.ntmps82
    go_wp2_with (go_at_call 104; refine (C.out _).mono ?_; rintro e w' ⟨rfl, rfl⟩)
    go_ret
    exact ⟨ret_str (by rw [hE.out]; rfl), Below.refl _ _⟩

/-! ### The year with an age -/
def ofB (a : Int) : Bool := decide (-198000 ≤ a ∧ a ≤ 202000)
def ofY (a : Int) : Int := if ofB a = true then 2000 - a else 0
set_option maxHeartbeats 1000000 in
theorem implYearOf_any (a : Int) (ha : -1000000000000 ≤ a ∧ a ≤ 1000000000000) (w : World) :
    Calls Tryz.prog 81 #[.int .i64 a] w fun e w' => e = .returned (.tuple #[.int .i64 (ofY a), .bool (ofB a)]) ∧ w = w' := by
  obtain ⟨a0, a1⟩ := ha
  have e1 : IntKind.i64.wrap (2000 - a) = 2000 - a := IntWalk.i64_in _ ⟨by omega, by omega⟩
  have C := Lib.hid (fun W => isYear_any (2000 - a) (yearB (2000 - a)) rfl W)
  rcases (show a < -400000 ∨ (-400000 ≤ a ∧ 400000 < a) ∨ (-400000 ≤ a ∧ a ≤ 400000) by omega) with h | ⟨h, h2⟩ | ⟨h, h2⟩
  · have f : ofB a = false := decide_eq_false (by omega)
    have f2 : ofY a = 0 := by unfold ofY; rw [f]; rfl
    rw [f, f2]
    clear f f2
    go_enter Tryz.func81, Tryz.ntmps81
    go_wp2
    go_ret2
    exact ⟨rfl, rfl⟩
  · have f : ofB a = false := decide_eq_false (by omega)
    have f2 : ofY a = 0 := by unfold ofY; rw [f]; rfl
    rw [f, f2]
    clear f f2
    go_enter Tryz.func81, Tryz.ntmps81
    go_wp2
    go_ret2
    exact ⟨rfl, rfl⟩
  · have hB : yearB (2000 - a) = ofB a := by unfold yearB ofB; rw [Bool.eq_iff_iff]; simp; omega
    rw [hB] at C
    unfold ofY
    cases hO : ofB a with
    | false =>
      rw [hO] at C
      clear hB hO
      go_enter Tryz.func81, Tryz.ntmps81
      go_wp2_with (go_at_call 104; refine (C.out _).mono ?_; rintro e w' ⟨rfl, rfl⟩)
      go_ret2
      exact ⟨rfl, rfl⟩
    | true =>
      rw [hO] at C
      clear hB hO
      go_enter Tryz.func81, Tryz.ntmps81
      go_wp2_with (go_at_call 104; refine (C.out _).mono ?_; rintro e w' ⟨rfl, rfl⟩)
      go_ret2
      exact ⟨rfl, rfl⟩
end Go.Proofs.YtefadlbfkhndfaaGreatDoor

/-
  Contract: the program's both.
-/
namespace Go.Proofs.YtefadlbfkhndfaaGreatDoor
open Go.RowKit
set_option linter.unusedSimpArgs false
set_option linter.unusedVariables false

set_option maxHeartbeats 1000000 in
theorem both_any (a b : Int) (ok : Bool) (h : (0 ≤ a ∧ a ≤ 1000000) ∧ 0 ≤ b ∧ b ≤ 1000000) (w : World) (hT : Tab w) :
    Calls Tryz.prog 80 #[.int .i64 a, .int .i64 b, .bool ok] w fun e w' => e = .returned (.tuple #[.string (tx (dec a.toNat ++ 32 :: dec b.toNat)), .bool ok]) ∧ Below w.heap.size w w' := by
  obtain ⟨n, rfl⟩ : ∃ n : Nat, a = n := ⟨a.toNat, by omega⟩
  obtain ⟨m, rfl⟩ : ∃ m : Nat, b = m := ⟨b.toNat, by omega⟩
  simp only [Int.toNat_natCast]
  have I1 := Lib.hid (fun W hW => itoaB_any n (by omega) W hW)
  have I2 := Lib.hid (fun W hW => itoaB_any m (by omega) W hW)
  obtain ⟨X, hXx⟩ : ∃ X, X = tx (Lib.decDigits n) := ⟨_, rfl⟩
  obtain ⟨Y, hYy⟩ : ∃ Y, Y = tx (Lib.decDigits m) := ⟨_, rfl⟩
  rw [← hXx] at I1
  rw [← hYy] at I2
  have xz : X.size ≤ 8 := by rw [hXx, tx_size]; exact dec_len 7 n (by omega)
  have yz : Y.size ≤ 8 := by rw [hYy, tx_size]; exact dec_len 7 m (by omega)
  obtain ⟨T1, h1⟩ : ∃ T, T = X ++ (ByteArray.mk #[32]) := ⟨_, rfl⟩
  have z1 : T1.size ≤ 15 := by rw [h1, ByteArray.size_append, show (ByteArray.mk #[32]).size = 1 from rfl]; omega
  have hfin : T1 ++ Y = tx (dec n ++ 32 :: dec m) := by
    rw [h1, hXx, hYy]
    show tx _ ++ tx [32] ++ tx _ = _
    rw [tx_add, tx_add]
    simp [dec]
  have A1 := add_at X (ByteArray.mk #[32]) T1 (by rw [show (ByteArray.mk #[32]).size = 1 from rfl]; omega) h1.symm
  have A2 := add_at T1 Y (tx (dec n ++ 32 :: dec m)) (by omega) hfin
  have HT := Lib.hid hT
  clear hXx hYy h1 hfin xz yz z1 hT h
  go_enter Tryz.func80, Tryz.ntmps80
  go_wp2_with fail
  refine (I1.out _ HT.out).mono ?_
  rintro e w1 ⟨rfl, b1⟩
  go_wp2_with fail
  refine (I2.out _ (HT.out.below b1 (Nat.le_refl _))).mono ?_
  rintro e w2 ⟨rfl, b2⟩
  go_wp2_with fail
  go_ret2
  exact ⟨rfl, b1.trans (b2.mono b1.size)⟩
end Go.Proofs.YtefadlbfkhndfaaGreatDoor

/-
  Contract: the laws' own word endLine.
-/
namespace Go.Proofs.YtefadlbfkhndfaaGreatDoor
open Go.RowKit
set_option linter.unusedSimpArgs false
set_option linter.unusedVariables false

theorem endT_len (s : St) (h1 : s.core.length ≤ 10000) (h2 : s.lays.length ≤ 10000) : (endT s).length ≤ 40 := by
  have a1 : (dec s.core.length).length ≤ 8 := dec_len 7 _ (by omega)
  have a2 : (dec s.lays.length).length ≤ 8 := dec_len 7 _ (by omega)
  unfold endT
  simp only [List.length_append, List.length_cons, List.length_nil]
  omega
set_option maxHeartbeats 1000000 in
theorem endLine_any (n m : Nat) (s : St) (hn : s.core.length = n) (hm : s.lays.length = m) (hn' : n ≤ 10000) (hm' : m ≤ 10000) (w : World) :
    Calls Tryz.prog 23 #[.int .i64 n, .int .i64 m] w fun e w' => e = .returned (.string (tx (endT s))) ∧ Below w.heap.size w w' := by
  have I1 := Lib.hid (fun W => digits_any n W (by omega))
  have I2 := Lib.hid (fun W => digits_any m W (by omega))
  obtain ⟨X, hXx⟩ : ∃ X, X = tx (Lib.decDigits n) := ⟨_, rfl⟩
  obtain ⟨Y, hYy⟩ : ∃ Y, Y = tx (Lib.decDigits m) := ⟨_, rfl⟩
  rw [← hXx] at I1
  rw [← hYy] at I2
  have xz : X.size ≤ 8 := by rw [hXx, tx_size]; exact dec_len 7 n (by omega)
  have yz : Y.size ≤ 8 := by rw [hYy, tx_size]; exact dec_len 7 m (by omega)
  have pz : (ByteArray.mk #[112, 105, 101, 99, 101, 115, 32]).size = 7 := rfl
  have qz : (ByteArray.mk #[32, 108, 97, 121, 101, 114, 115, 32]).size = 8 := rfl
  have nz : (ByteArray.mk #[10]).size = 1 := rfl
  obtain ⟨T1, h1⟩ : ∃ T, T = (ByteArray.mk #[112, 105, 101, 99, 101, 115, 32]) ++ X := ⟨_, rfl⟩
  obtain ⟨T2, h2⟩ : ∃ T, T = T1 ++ (ByteArray.mk #[32, 108, 97, 121, 101, 114, 115, 32]) := ⟨_, rfl⟩
  obtain ⟨T3, h3⟩ : ∃ T, T = T2 ++ Y := ⟨_, rfl⟩
  have z1 : T1.size ≤ 15 := by rw [h1, ByteArray.size_append]; omega
  have z2 : T2.size ≤ 23 := by rw [h2, ByteArray.size_append]; omega
  have z3 : T3.size ≤ 31 := by rw [h3, ByteArray.size_append]; omega
  have hfin : T3 ++ (ByteArray.mk #[10]) = tx (endT s) := by
    rw [h3, h2, h1, hXx, hYy]
    show tx [112, 105, 101, 99, 101, 115, 32] ++ tx _ ++ tx [32, 108, 97, 121, 101, 114, 115, 32] ++ tx _ ++ tx [10] = _
    rw [tx_add, tx_add, tx_add, tx_add]
    unfold endT
    rw [hn, hm]
    rfl
  have A1 := add_at (ByteArray.mk #[112, 105, 101, 99, 101, 115, 32]) X T1 (by omega) h1.symm
  have A2 := add_at T1 (ByteArray.mk #[32, 108, 97, 121, 101, 114, 115, 32]) T2 (by omega) h2.symm
  have A3 := add_at T2 Y T3 (by omega) h3.symm
  have A4 := add_at T3 (ByteArray.mk #[10]) (tx (endT s)) (by omega) hfin
  clear hXx hYy h1 h2 h3 hfin pz qz nz xz yz z1 z2 z3 hn hm
  go_enter Tryz.func23, Tryz.ntmps23
  go_wp2_with fail
  refine (I1.out _).mono ?_
  rintro e w1 ⟨rfl, b1⟩
  go_wp2_with fail
  refine (I2.out _).mono ?_
  rintro e w2 ⟨rfl, b2⟩
  go_wp2_with fail
  go_ret
  exact ⟨rfl, b1.trans (b2.mono b1.size)⟩
end Go.Proofs.YtefadlbfkhndfaaGreatDoor

/-
  Contracts: the laws' own words pieceLines, okLines.
-/
namespace Go.Proofs.YtefadlbfkhndfaaGreatDoor
open Go.RowKit
set_option linter.unusedSimpArgs false
set_option linter.unusedVariables false

theorem okLinesT_len (n : Nat) : (okLinesT n).length = 3 * n := by
  induction n with
  | zero => rfl
  | succ n ih => rw [okLinesT_succ]; simp [ih]; omega
set_option maxHeartbeats 1000000 in
theorem okLines_any (n : Nat) (hn : n ≤ 1000) (w : World) :
    Calls Tryz.prog 24 #[.int .i64 n] w fun e w' => e = .returned (.string (tx (okLinesT n))) ∧ w = w' := by
  go_enter Tryz.func24, Tryz.ntmps24
  go_wp2_with fail
  go_loopw [3, 4] (fun s i wr => wr = w ∧ ∃ k : Nat, k ≤ n ∧ i = .int .i64 k ∧ s = .string (tx (okLinesT k))) (fun _ i _ => n - (intOf i).toNat)
  case atStart => exact ⟨rfl, 0, Nat.zero_le _, rfl, rfl⟩
  case round =>
    obtain ⟨rfl, k, hk, rfl, rfl⟩ := hrel
    by_cases hlt : k < n
    · have ik : (k : Int) < (n : Int) := by omega
      have hl := okLinesT_len k
      have h1 : tx (okLinesT k) ++ (ByteArray.mk #[111, 107, 10]) = tx (okLinesT (k + 1)) := by
        show _ ++ tx [111, 107, 10] = _
        rw [tx_add, okLinesT_succ]
      have A1 := add_at _ _ _ (by rw [tx_size]; show _ + 3 ≤ 1000000; omega) h1
      obtain ⟨X, hX⟩ : ∃ X, X = tx (okLinesT k) := ⟨_, rfl⟩
      rw [← hX] at A1
      simp only [← hX]
      have HX := Lib.hid hX
      clear hX h1 hl
      go_wp2_with fail
      go_roundw
      case rel => exact ⟨trivial, k + 1, by omega, by go_num, rfl⟩
      case measure => simp [intOf]; omega
    · obtain rfl : k = n := by omega
      go_wp2
      go_ret
      exact ⟨rfl, rfl⟩

theorem pl_snoc {l : List Pc} {k : Nat} {x y : Int} (h : l[k]? = some (x, y)) : linesT ((l.take (k + 1)).map pieceLine) = linesT ((l.take k).map pieceLine) ++ ([112, 105, 101, 99, 101, 32] ++ (dec x.toNat ++ ([32] ++ (dec y.toNat ++ [10])))) := by
  rw [take_snoc h, List.map_append, linesT_append]
  simp [linesT, pieceLine, wPiece]
set_option maxRecDepth 100000 in
set_option maxHeartbeats 4000000 in
theorem pieceLines_any (A : Option Addr) (n c : Nat) (l : List Pc) (w : World) (h : Arr PP 2 w w.heap.size A n l) (hB : coreB l = true) :
    Calls Tryz.prog 36 #[.slice A n c] w fun e w' => e = .returned (.string (tx (linesT (l.map pieceLine)))) ∧ Below w.heap.size w w' := by
  have hln := Lib.hid h.1
  obtain ⟨hF, h20⟩ := (coreB_iff l).1 hB
  rw [hln.out] at h20
  have HF := Lib.hid hF
  clear hB hF
  go_enter Tryz.func36, Tryz.ntmps36
  go_wp2_with fail
  go_loopw [3, 4] (fun s i wr => ∃ (k : Nat) (S : ByteArray), k ≤ n ∧ i = .int .i64 k ∧ s = .string S ∧ Hid (S = tx (linesT ((l.take k).map pieceLine))) ∧ S.size ≤ 30 * k ∧ Below w.heap.size w wr) (fun _ i _ => n - (intOf i).toNat)
  case atStart => exact ⟨0, ⟨#[]⟩, Nat.zero_le _, rfl, rfl, Lib.hid rfl, by simp [ByteArray.size], Below.refl _ _⟩
  case round =>
    obtain ⟨k, S, hk, rfl, rfl, hS, hSz, hb⟩ := hrel
    by_cases hlt : k < n
    · obtain ⟨b, off, x, y, rfl, hbB, hx, c1, c2⟩ := h.pair hlt
      have hm := coreFrom_mem HF.out _ (List.mem_of_getElem? hx)
      obtain ⟨u, rfl⟩ : ∃ u : Nat, x = u := ⟨x.toNat, by omega⟩
      obtain ⟨v, rfl⟩ : ∃ v : Nat, y = v := ⟨y.toNat, by omega⟩
      have hu : u ≤ 10000000 := by omega
      have hv : v ≤ 10000000 := by omega
      obtain ⟨X, hX⟩ : ∃ X, X = tx (Lib.decDigits u) := ⟨_, rfl⟩
      obtain ⟨Y, hY⟩ : ∃ Y, Y = tx (Lib.decDigits v) := ⟨_, rfl⟩
      have K1' := Lib.hid (fun W => digits_any u W hu)
      have K2' := Lib.hid (fun W => digits_any v W hv)
      rw [← hX] at K1'
      rw [← hY] at K2'
      have hXz : X.size ≤ 8 := by rw [hX, tx_size]; exact dec_len 7 u (by omega)
      have hYz : Y.size ≤ 8 := by rw [hY, tx_size]; exact dec_len 7 v (by omega)
      have pz : (ByteArray.mk #[112, 105, 101, 99, 101, 32]).size = 6 := rfl
      have qz : (ByteArray.mk #[32]).size = 1 := rfl
      have nz : (ByteArray.mk #[10]).size = 1 := rfl
      obtain ⟨T1, h1⟩ : ∃ T, T = S ++ (ByteArray.mk #[112, 105, 101, 99, 101, 32]) := ⟨_, rfl⟩
      obtain ⟨T2, h2⟩ : ∃ T, T = T1 ++ X := ⟨_, rfl⟩
      obtain ⟨T3, h3⟩ : ∃ T, T = T2 ++ (ByteArray.mk #[32]) := ⟨_, rfl⟩
      obtain ⟨T4, h4⟩ : ∃ T, T = T3 ++ Y := ⟨_, rfl⟩
      obtain ⟨T5, h5⟩ : ∃ T, T = T4 ++ (ByteArray.mk #[10]) := ⟨_, rfl⟩
      have z1 : T1.size = S.size + 6 := by rw [h1, ByteArray.size_append, pz]
      have z2 : T2.size = T1.size + X.size := by rw [h2, ByteArray.size_append]
      have z3 : T3.size = T2.size + 1 := by rw [h3, ByteArray.size_append, qz]
      have z4 : T4.size = T3.size + Y.size := by rw [h4, ByteArray.size_append]
      have z5 : T5.size = T4.size + 1 := by rw [h5, ByteArray.size_append, nz]
      have z6 : T5.size ≤ 30 * (k + 1) := by omega
      have HS5 : Hid (T5 = tx (linesT ((l.take (k + 1)).map pieceLine))) := Lib.hid (by
        rw [pl_snoc hx, h5, h4, h3, h2, h1, hS.out, hX, hY]
        show tx _ ++ tx [112, 105, 101, 99, 101, 32] ++ tx _ ++ tx [32] ++ tx _ ++ tx [10] = _
        rw [tx_add, tx_add, tx_add, tx_add, tx_add]
        simp [dec])
      have A1 := add_at S (ByteArray.mk #[112, 105, 101, 99, 101, 32]) T1 (by omega) h1.symm
      have A2 := add_at T1 X T2 (by omega) h2.symm
      have A3 := add_at T2 (ByteArray.mk #[32]) T3 (by omega) h3.symm
      have A4 := add_at T3 Y T4 (by omega) h4.symm
      have A5 := add_at T4 (ByteArray.mk #[10]) T5 (by omega) h5.symm
      have c1' := (hb.cell (by exact hbB)).trans c1
      have c2' := (hb.cell (by exact hbB)).trans c2
      have ik : (k : Int) < (n : Int) := by omega
      have ik0 : (0 : Int) ≤ (k : Int) := by omega
      have hsz := hb.size
      have D1 := Later.cell (w0 := wr) (B := w.heap.size) (by exact hbB) c1'
      have D2 := Later.cell (w0 := wr) (B := w.heap.size) (by exact hbB) c2'
      clear hX hY h1 h2 h3 h4 h5 z1 z2 z3 z4 z5 pz qz nz hXz hYz hm hx c1 c2 c1' c2' hS hSz
      go_wp2_with fail
      refine wp_region_under (B := w.heap.size) (w0 := wr) (by kernel_rfl) (by kernel_rfl) (Below.refl _ _) ?_
      repeat (go_big_quiet_step ((first
        | (go_at_call 28; with_reducible exact Calls.under hsz (K1'.out _))
        | (go_at_call 28; with_reducible exact Calls.under hsz (K2'.out _)))))
      refine wpQuiet_nil ?_
      rintro w2 ⟨q, hq⟩
      have hb2 := hb.trans (show Below w.heap.size wr w2 by rw [hq]; exact q.2)
      clear hq q D1 D2 A1 A2 A3 A4 A5
      go_wp2
      go_roundw
      case rel => exact ⟨k + 1, T5, by omega, by go_num, rfl, HS5, z6, hb2⟩
      case measure => simp [intOf]; omega
    · obtain rfl : k = n := by omega
      have hE := Lib.hid (show l.take k = l from List.take_of_length_le (by rw [hln.out]; exact Nat.le_refl _))
      go_wp2
      go_ret
      exact ⟨ret_str (by rw [hS.out, hE.out]), hb⟩
end Go.Proofs.YtefadlbfkhndfaaGreatDoor

/-
  Contract: the laws' own word layerLines.
-/
namespace Go.Proofs.YtefadlbfkhndfaaGreatDoor
open Go.RowKit
set_option linter.unusedSimpArgs false
set_option linter.unusedVariables false

theorem Arr.one {α : Type} {f : α → List Value} {sz : Nat} {w : World} {B : Nat} {b o : Nat} {n : Nat} {l : List α} (h : Arr f sz w B (some ⟨b, o, none⟩) n l) {k : Nat} {x : α} (hx : l[k]? = some x) (hk : k < n) :
    Arr f sz w B (some ⟨b, o + k * sz, none⟩) 1 [x] := by
  have h1 := h.take (k := k + 1) (by omega)
  have h2 := h1.cutAt (k := k) (cap := k + 2) (by omega) (by omega)
  rw [if_neg (by omega), Nat.add_sub_cancel_left, take_snoc hx, List.drop_left' (by rw [List.length_take, h.1]; omega)] at h2
  have e : (Addr.mk b o none).add (k * sz) = ⟨b, o + k * sz, none⟩ := by
    unfold Addr.add
    split
    · rename_i h0; simp [h0]
    · rfl
  rw [Option.map_some, e] at h2
  exact h2
theorem layersT_one {p : Ly} (h : 0 ≤ p.1 ∧ p.1 ≤ 30000) : layersT [p] = lineL p ++ [10] := by
  have hB : layB [p] = true := (layB_iff _).2 ⟨by rw [layFrom_cons]; exact ⟨⟨by omega, h.2⟩, rfl⟩, by simp⟩
  unfold layersT
  rw [if_pos hB]
  show lyT p ++ [] = _
  rw [List.append_nil, lyT_line]
theorem ll_snoc {l : List Ly} {k : Nat} {p : Ly} (h : l[k]? = some p) : linesT ((l.take (k + 1)).map layerLine) = linesT ((l.take k).map layerLine) ++ ([108, 97, 121, 101, 114, 32] ++ (lineL p ++ [10])) := by
  rw [take_snoc h, List.map_append, linesT_append]
  simp [linesT, layerLine, wLayer]
theorem lineL_len {p : Ly} (h : 0 ≤ p.1 ∧ p.1 ≤ 30000) : (lineL p).length ≤ 9 := by
  have h1 : (Lib.decDigits p.1.toNat).length ≤ 5 := dec_len 4 _ (by omega)
  unfold lineL
  split <;> simp <;> omega

set_option maxRecDepth 100000 in
set_option maxHeartbeats 4000000 in
theorem layerLines_any (A : Option Addr) (n c : Nat) (l : List Ly) (w : World) (h : Arr LL 2 w w.heap.size A n l) (hB : layB l = true) (hc : n ≤ c) (hT : Tab w) :
    Calls Tryz.prog 22 #[.slice A n c] w fun e w' => e = .returned (.string (tx (linesT (l.map layerLine)))) ∧ Below w.heap.size w w' := by
  have hln := Lib.hid h.1
  obtain ⟨hF, h40⟩ := (layB_iff l).1 hB
  rw [hln.out] at h40
  have HF := Lib.hid hF
  have HT := Lib.hid hT
  clear hB hF hT
  go_enter Tryz.func22, Tryz.ntmps22
  go_wp2_with fail
  go_loopw [3, 4] (fun s i wr => ∃ (k : Nat) (S : ByteArray), k ≤ n ∧ i = .int .i64 k ∧ s = .string S ∧ Hid (S = tx (linesT ((l.take k).map layerLine))) ∧ S.size ≤ 30 * k ∧ Below w.heap.size w wr) (fun _ i _ => n - (intOf i).toNat)
  case atStart => exact ⟨0, ⟨#[]⟩, Nat.zero_le _, rfl, rfl, Lib.hid rfl, by simp [ByteArray.size], Below.refl _ _⟩
  case round =>
    obtain ⟨k, S, hk, rfl, rfl, hS, hSz, hb⟩ := hrel
    by_cases hlt : k < n
    · obtain ⟨b, off, x, y, rfl, hbB, hx, c1, c2⟩ := h.layer hlt
      have hm := layFrom_mem HF.out _ (List.mem_of_getElem? hx)
      have hr : 0 ≤ x ∧ x ≤ 30000 := by simp at hm; omega
      have hA := ((h.below hb (Nat.le_refl _)).one hx hlt).more hb.size
      have CT := Lib.hid (implLayersText_any (some ⟨b, off + k * 2, none⟩) 1 (c - k) [(x, y)] wr hA (by omega) (HT.out.below hb (Nat.le_refl _)))
      obtain ⟨X, hX⟩ : ∃ X, X = tx (layersT [(x, y)]) := ⟨_, rfl⟩
      rw [← hX] at CT
      have hll := lineL_len (p := (x, y)) hr
      have hXz : X.size ≤ 10 := by rw [hX, tx_size, layersT_one hr]; simp; omega
      have pz : (ByteArray.mk #[108, 97, 121, 101, 114, 32]).size = 6 := rfl
      obtain ⟨T1, h1⟩ : ∃ T, T = S ++ (ByteArray.mk #[108, 97, 121, 101, 114, 32]) := ⟨_, rfl⟩
      obtain ⟨T2, h2⟩ : ∃ T, T = T1 ++ X := ⟨_, rfl⟩
      have z1 : T1.size = S.size + 6 := by rw [h1, ByteArray.size_append, pz]
      have z2 : T2.size = T1.size + X.size := by rw [h2, ByteArray.size_append]
      have z3 : T2.size ≤ 30 * (k + 1) := by omega
      have HS5 : Hid (T2 = tx (linesT ((l.take (k + 1)).map layerLine))) := Lib.hid (by
        rw [ll_snoc hx, h2, h1, hS.out, hX, layersT_one hr]
        show tx _ ++ tx [108, 97, 121, 101, 114, 32] ++ tx _ = _
        rw [tx_add, tx_add]
        simp)
      have A1 := add_at S (ByteArray.mk #[108, 97, 121, 101, 114, 32]) T1 (by omega) h1.symm
      have A2 := add_at T1 X T2 (by omega) h2.symm
      have ik : (k : Int) < (n : Int) := by omega
      have ik0 : (0 : Int) ≤ (k : Int) := by omega
      have i1 : (k : Int) ≤ (k : Int) + 1 := by omega
      have i2 : (k : Int) + 1 ≤ (c : Int) := by omega
      have hkc : ¬ (c = k) := by omega
      clear hX h1 h2 z1 z2 pz hXz hm hx c1 c2 hA hll hS hSz hr
      go_wp2_with (go_at_call 58; refine CT.out.mono ?_; rintro e w2 ⟨rfl, b2⟩; have hb2 := hb.trans (b2.mono hb.size))
      go_roundw
      case rel => exact ⟨k + 1, T2, by omega, by go_num, rfl, HS5, z3, hb2⟩
      case measure => simp [intOf]; omega
    · obtain rfl : k = n := by omega
      have hE := Lib.hid (show l.take k = l from List.take_of_length_le (by rw [hln.out]; exact Nat.le_refl _))
      go_wp2
      go_ret
      exact ⟨ret_str (by rw [hS.out, hE.out]), hb⟩
end Go.Proofs.YtefadlbfkhndfaaGreatDoor
