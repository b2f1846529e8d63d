/-
  The map of the words that a script knows, as a datum; what it holds.
-/
import Derived.Test.YtefadlbfkhndfaaDoorPlainX
import Derived.Maps.OwnSet
namespace Go.Proofs.YtefadlbfkhndfaaDoor
open Go.RowKit Go.Maps
set_option linter.unusedSimpArgs false
set_option linter.unusedVariables false

def wants : List (List UInt8 × Int) := [(wPiece, 2), (wCut, 1), (wJoin, 0), (wLayer, 1), (wCore, 0), (wLength, 0), (wCount, 2), (wAge, 1), (wYear, 1)]
def putW (D : DataW Unit) (p : List UInt8 × Int) : DataW Unit := D.put (.string p.1) (.lit (.int .i64 p.2))
def wantD : DataW Unit := wants.foldl putW (.map [])
def wantOf (x : List UInt8) : Option Int := (wants.find? fun p => decide (p.1 = x)).map (·.2)
theorem isMap_putW {D : DataW Unit} (h : IsMap D) (p : List UInt8 × Int) : IsMap (putW D p) := h.put _ _
theorem want_no {x : List UInt8} : ∀ (L : List (List UInt8 × Int)) (D : DataW Unit), (∀ p ∈ L, p.1 ≠ x) → Maps.has (L.foldl putW D) (.string x) = Maps.has D (.string x) := by
  intro L
  induction L with
  | nil => intro D _; rfl
  | cons p L ih =>
    intro D h
    rw [List.foldl_cons, ih _ (fun q hq => h q (List.mem_cons_of_mem _ hq))]
    exact has_put_other (fun e => h p List.mem_cons_self (by injection e with e; exact e.symm)) _
theorem wantOf_none {x : List UInt8} (h : wantOf x = none) : Maps.has wantD (.string x) = false := by
  unfold wantOf at h
  rw [Option.map_eq_none_iff, List.find?_eq_none] at h
  unfold wantD
  rw [want_no wants _ (fun p hp e => h p hp (by simpa using e))]
  rfl
theorem wantOf_some {x : List UInt8} {k : Int} (h : wantOf x = some k) : (x = wPiece ∧ k = 2) ∨ (x = wCut ∧ k = 1) ∨ (x = wJoin ∧ k = 0) ∨ (x = wLayer ∧ k = 1) ∨ (x = wCore ∧ k = 0) ∨ (x = wLength ∧ k = 0) ∨ (x = wCount ∧ k = 2) ∨ (x = wAge ∧ k = 1) ∨ (x = wYear ∧ k = 1) := by
  unfold wantOf at h
  obtain ⟨p, hp, rfl⟩ := Option.map_eq_some_iff.1 h
  have h1 := List.mem_of_find?_eq_some hp
  have h2 := List.find?_some hp
  simp only [decide_eq_true_eq] at h2
  subst h2
  simp only [wants, List.mem_cons, List.mem_nil_iff, or_false] at h1
  rcases h1 with rfl | rfl | rfl | rfl | rfl | rfl | rfl | rfl | rfl <;> simp
theorem want_has {x : List UInt8} {k : Int} (h : wantOf x = some k) : Maps.has wantD (.string x) = true ∧ wantD.atKey (.string x) (.lit (.int .i64 0)) = .lit (.int .i64 k) := by
  rcases wantOf_some h with ⟨rfl, rfl⟩ | ⟨rfl, rfl⟩ | ⟨rfl, rfl⟩ | ⟨rfl, rfl⟩ | ⟨rfl, rfl⟩ | ⟨rfl, rfl⟩ | ⟨rfl, rfl⟩ | ⟨rfl, rfl⟩ | ⟨rfl, rfl⟩ <;> exact ⟨rfl, rfl⟩
/-- A line that no word begins, or that has too many or too few words. -/
theorem lineX_what {s : St} {c : List UInt8} {r : List (List UInt8)} (h : ∀ k, wantOf c = some k → k ≠ (r.length : Int)) : lineX s (c :: r) = (s, whatT) := by
  have key : ∀ (w : List UInt8) (k : Int), wantOf w = some k → k = (r.length : Int) → c ≠ w := fun w k hk hr e => h k (by rw [e]; exact hk) hr
  match r, key with
  | [], key =>
    simp only [lineX]
    rw [if_neg (key wJoin 0 rfl rfl), if_neg (key wCore 0 rfl rfl), if_neg (key wLength 0 rfl rfl)]
  | [a], key =>
    simp only [lineX]
    rw [if_neg (key wCut 1 rfl rfl), if_neg (key wLayer 1 rfl rfl), if_neg (key wAge 1 rfl rfl), if_neg (key wYear 1 rfl rfl)]
  | [a, b], key =>
    simp only [lineX]
    rw [if_neg (key wPiece 2 rfl rfl), if_neg (key wCount 2 rfl rfl)]
  | _ :: _ :: _ :: _, _ => rfl
/-- A store of a map's literal, at the operation. -/
theorem wpList_insert_own {H : Type} {P : Program} (w : World) {ops : Array Oper} {rest : List Oper} {o : Oper} {a : Act} {Q : Exit → Act → World → Prop}
    (hg : o.guard = none) (m x v : Operand) (t : TypeId) (hop : o.op = Op.insert t m x v)
    (k e : TypeId) (K : Keyed P k) (ht : P.underlying t = some (.map k e)) (R : Value → Option (DataW H × List MemPlace)) (b n : Nat) (D D' : DataW H)
    (hm : a.eval m = .map (some b)) (hown : w.ownsMap P k R b n D) (hn : n < maxLen) (key val : Value) (kl : Lit) (hx : a.eval x = key) (hv : a.eval v = val) (hkey : keyOf P k key = some kl)
    (d : DataW H) (ps : List MemPlace) (hval : R val = some (d, ps)) (hD : D.put kl d = D')
    (hK : ∀ w', w'.ownsMap P k R b (n + 1) D' → w.grownBy w' (some b) → wpList P ops Q rest (a.put o.dst undef) w') :
    wpList P ops Q (o :: rest) a w := by
  subst hD
  refine wpList_plain hg fun K' hK' => ?_
  obtain ⟨w', hrun, r1, r2⟩ := hown.update K ht hn hkey hval
  unfold Oper.wp
  simp [execOp, hop, hm, hx, hv, hrun, Result.andThen]
  exact hK' _ _ (hK w' r1 r2)
def wD (i : Nat) : DataW Unit := (wants.take i).foldl putW (.map [])
theorem wD_step {i : Nat} {p : List UInt8 × Int} (h : wants[i]? = some p) : (wD i).put (.string p.1) (.lit (.int .i64 p.2)) = wD (i + 1) := by
  unfold wD
  rw [List.take_add_one, h, List.foldl_append]
  rfl
theorem wD_all : wD 9 = wantD := rfl
end Go.Proofs.YtefadlbfkhndfaaDoor
