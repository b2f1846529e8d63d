/-
  Plain words on scripts: what a line does to the state, what it answers, what a script answers.
-/
import Derived.Test.YtefadlbfkhndfaaDoorSplitP
import Derived.Test.YtefadlbfkhndfaaDoorCoreText
import Derived.Test.YtefadlbfkhndfaaDoorPlainW
namespace Go.Proofs.YtefadlbfkhndfaaDoor
open Go.RowKit
set_option linter.unusedSimpArgs false
set_option linter.unusedVariables false

/-- What a script has made so far. -/
structure St where
  core : List Pc
  lays : List Ly
def St.ok (s : St) : Prop := coreB s.core = true ∧ layB s.lays = true
def wPiece : List UInt8 := [112, 105, 101, 99, 101]
def wCut : List UInt8 := [99, 117, 116]
def wJoin : List UInt8 := [106, 111, 105, 110]
def wLayer : List UInt8 := [108, 97, 121, 101, 114]
def wCore : List UInt8 := [99, 111, 114, 101]
def wLength : List UInt8 := [108, 101, 110, 103, 116, 104]
def wCount : List UInt8 := [99, 111, 117, 110, 116]
def wAge : List UInt8 := [97, 103, 101]
def wYear : List UInt8 := [121, 101, 97, 114]
def okT : List UInt8 := [111, 107]
def noT : List UInt8 := [110, 111]
def whatT : List UInt8 := [119, 104, 97, 116]
def tooLong : List UInt8 := [116, 111, 111, 32, 108, 111, 110, 103, 10]
def dec (n : Nat) : List UInt8 := Lib.decDigits n

/-! ### Layers between two depths -/
def spanB (a b : Int) : Bool := decide (0 ≤ a ∧ a ≤ b ∧ b ≤ 30000)
def cntAll (t b : Int) (l : List Ly) : Nat := l.countP fun p => decide (t ≤ p.1 ∧ p.1 < b)
def cntSure (t b : Int) (l : List Ly) : Nat := l.countP fun p => decide (t ≤ p.1 ∧ p.1 < b) && p.2
def countL (l : List Ly) (t b : Int) : Option (Nat × Nat) := if layB l = true ∧ spanB t b = true then some (cntSure t b l, cntAll t b l) else none
def twoT : Option (Nat × Nat) → List UInt8
  | some p => dec p.1 ++ 32 :: dec p.2
  | none => noT

/-! ### A core that is cut -/
def holds (d : Int) (p : Pc) : Bool := decide (p.1 ≤ d ∧ d < p.2)
def atL (d : Int) (l : List Pc) : Option Nat := l.findIdx? (holds d)
def coreCutL (l : List Pc) (d : Int) : Option (List Pc) :=
  if coreB l = true then
    match atL d l with
    | some k => if (l[k]?.getD (0, 0)).1 = d ∨ l.length = 20 then none else some (l.take k ++ ((l[k]?.getD (0, 0)).1, d) :: (d, (l[k]?.getD (0, 0)).2) :: l.drop (k + 1))
    | none => none
  else none

/-! ### Years -/
def yearT (y : Int) : List UInt8 := if -200000 ≤ y ∧ y ≤ 200000 then (if 0 < y then dec y.toNat ++ [32, 67, 69] else dec (1 - y).toNat ++ [32, 66, 67, 69]) else []
def yearLine (a : Int) : List UInt8 := if 0 ≤ a ∧ a ≤ 202000 then yearT (2000 - a) else noT

/-! ### A line -/
def setCore (s : St) : Option (List Pc) → St × List UInt8
  | some c => ({ s with core := c }, okT)
  | none => (s, noT)
def addPiece (s : St) (a b : Int) : St × List UInt8 := if coreB (s.core ++ [(a, b)]) = true then ({ s with core := s.core ++ [(a, b)] }, okT) else (s, noT)
def layerOf (w : List UInt8) : Ly := lyOf w
def addLayer (s : St) (w : List UInt8) : St × List UInt8 := if layB (s.lays ++ [layerOf w]) = true then ({ s with lays := s.lays ++ [layerOf w] }, okT) else (s, noT)
def lineX (s : St) : List (List UInt8) → St × List UInt8
  | [c] =>
    if c = wJoin then (if coreB s.core = true then ({ s with core := joinL s.core }, okT) else (s, noT))
    else if c = wCore then (s, coreT s.core)
    else if c = wLength then (s, dec (coreLen s.core).toNat)
    else (s, whatT)
  | [c, a] =>
    if c = wCut then setCore s (coreCutL s.core (dig a))
    else if c = wLayer then addLayer s a
    else if c = wAge then (s, twoT (countL s.lays 0 (dig a)))
    else if c = wYear then (s, yearLine (dig a))
    else (s, whatT)
  | [c, a, b] =>
    if c = wPiece then addPiece s (dig a) (dig b)
    else if c = wCount then (s, twoT (countL s.lays (dig a) (dig b)))
    else (s, whatT)
  | _ => (s, whatT)

/-! ### A script -/
def runX : St → List (List UInt8) → St × List UInt8
  | s, [] => (s, [])
  | s, l :: t => ((runX (lineX s (splitB 32 l)).1 t).1, (lineX s (splitB 32 l)).2 ++ 10 :: (runX (lineX s (splitB 32 l)).1 t).2)
def endT (s : St) : List UInt8 := [112, 105, 101, 99, 101, 115, 32] ++ dec s.core.length ++ [32, 108, 97, 121, 101, 114, 115, 32] ++ dec s.lays.length ++ [10]
def st0 : St := ⟨[], []⟩
def linesX (t : List UInt8) : List (List UInt8) := (splitB 10 t).dropLast
def execT (t : List UInt8) : List UInt8 := if 500 < t.length then tooLong else (runX st0 (linesX t)).2 ++ endT (runX st0 (linesX t)).1

theorem runX_append : ∀ (s : St) (a b : List (List UInt8)), runX s (a ++ b) = ((runX (runX s a).1 b).1, (runX s a).2 ++ (runX (runX s a).1 b).2) := by
  intro s a
  induction a generalizing s with
  | nil => intro b; rfl
  | cons l t ih => intro b; simp only [List.cons_append, runX, ih]; simp

/-! ### The state stays valid -/
theorem st0_ok : st0.ok := ⟨rfl, rfl⟩
theorem coreFrom_append : ∀ {a b : List Pc} {d : Int}, coreFrom d (a ++ b) = true ↔ coreFrom d a = true ∧ coreFrom ((a.getLast?.map (·.2)).getD d) b = true := by
  intro a
  induction a with
  | nil => intro b d; simp [coreFrom]
  | cons p a ih =>
    intro b d
    rw [List.cons_append, coreFrom_cons, coreFrom_cons, ih]
    cases a with
    | nil => simp [coreFrom]
    | cons q a =>
      obtain ⟨z, hz⟩ : ∃ z, (q :: a).getLast? = some z := ⟨_, List.getLast?_eq_some_getLast (by simp)⟩
      rw [List.getLast?_cons_cons, hz]
      simp only [Option.map_some, Option.getD_some]
      exact ⟨fun h => ⟨⟨h.1, h.2.1⟩, h.2.2⟩, fun h => ⟨h.1.1, h.1.2, h.2⟩⟩
theorem atL_spec {d : Int} {l : List Pc} {k : Nat} (h : atL d l = some k) : ∃ x y, l[k]? = some (x, y) ∧ x ≤ d ∧ d < y := by
  unfold atL at h
  obtain ⟨hk, hp, _⟩ := List.findIdx?_eq_some_iff_getElem.1 h
  refine ⟨l[k].1, l[k].2, List.getElem?_eq_getElem hk, ?_⟩
  simpa [holds] using hp
theorem coreCutL_ok {l l' : List Pc} {d : Int} (h : coreCutL l d = some l') : coreB l' = true := by
  unfold coreCutL at h
  split at h
  · rename_i hB
    split at h
    · rename_i k hk
      obtain ⟨x, y, hx, h1, h2⟩ := atL_spec hk
      rw [hx] at h
      simp only [Option.getD_some] at h
      split at h
      · cases h
      · rename_i hn
        injection h with h
        subst h
        obtain ⟨hF, h20⟩ := (coreB_iff l).1 hB
        have hkl : k < l.length := (List.getElem?_eq_some_iff.1 hx).1
        refine (coreB_iff _).2 ⟨?_, by simp; omega⟩
        have e : l = l.take k ++ (x, y) :: l.drop (k + 1) := by rw [← drop_cons hx, List.take_append_drop]
        rw [e, coreFrom_append, coreFrom_cons] at hF
        rw [coreFrom_append, coreFrom_cons, coreFrom_cons]
        obtain ⟨f1, ⟨f2, f3, f4⟩, f5⟩ := hF
        simp only at f2 f3 f4 f5
        exact ⟨f1, ⟨f2, by simp; omega, by simp; omega⟩, ⟨by simp, by simp; omega, by simp; omega⟩, f5⟩
    · cases h
  · cases h
theorem joinL_ok {l : List Pc} (h : coreB l = true) : coreB (joinL l) = true := by
  obtain ⟨hF, h20⟩ := (coreB_iff l).1 h
  cases l with
  | nil => exact h
  | cons p t =>
    have := joinAcc_good hF
    exact (coreB_iff _).2 ⟨this.1, by have := this.2; simp at h20; show (joinAcc p t).length ≤ 20; omega⟩
theorem lineX_ok {s : St} (h : s.ok) (ws : List (List UInt8)) : (lineX s ws).1.ok := by
  obtain ⟨h1, h2⟩ := h
  unfold lineX
  split
  · repeat' split
    all_goals first | exact ⟨joinL_ok (by assumption), h2⟩ | exact ⟨h1, h2⟩
  · split
    · unfold setCore
      split
      · exact ⟨coreCutL_ok (by assumption), h2⟩
      · exact ⟨h1, h2⟩
    · split
      · unfold addLayer
        split
        · exact ⟨h1, by assumption⟩
        · exact ⟨h1, h2⟩
      · repeat' split
        all_goals exact ⟨h1, h2⟩
  · split
    · unfold addPiece
      split
      · exact ⟨by assumption, h2⟩
      · exact ⟨h1, h2⟩
    · split <;> exact ⟨h1, h2⟩
  · exact ⟨h1, h2⟩
theorem runX_ok : ∀ {ls : List (List UInt8)} {s : St}, s.ok → (runX s ls).1.ok := by
  intro ls
  induction ls with
  | nil => intro s h; exact h
  | cons l t ih => intro s h; exact ih (lineX_ok h _)
end Go.Proofs.YtefadlbfkhndfaaDoor
