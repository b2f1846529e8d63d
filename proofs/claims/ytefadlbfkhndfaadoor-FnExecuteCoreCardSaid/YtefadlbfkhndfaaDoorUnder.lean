/-
  A region that draws its order, whose operations read old memory and whose callees may make new memory: one walk in the order of the text, in the class of worlds that are as w0 was below block B.
-/
import Derived.Test.YtefadlbfkhndfaaDoorKit
namespace Go.Proofs.YtefadlbfkhndfaaDoor
open Go.RowKit
set_option linter.unusedSimpArgs false
set_option linter.unusedVariables false

def Later (B : Nat) (w0 : World) : Type := { w' : World // Below B w0 w' }

instance laterNonempty (B : Nat) (w0 : World) : Nonempty (Later B w0) := ⟨⟨w0, Below.refl _ _⟩⟩

section
variable {P : Program} {B : Nat} {w0 : World}
theorem wp_region_under {id : Nat} {Q : Exit → Act → World → Prop} {a : Act} {w : World} {l : List Oper} (hm : P.follows .mixedOrders = true) (hB : Region.lexB .any l.toArray = true) (h0 : Below B w0 w)
    (h : wpQuiet P l.toArray (fun w' => ∃ u : Later B w0, w' = u.1) (fun a' => ∀ w', (∃ u : Later B w0, w' = u.1) → Q .normal a' w') l a) : (Code.region id l.toArray true).wp P Q a w :=
  wp_region_quiet (C := fun w' => ∃ u : Later B w0, w' = u.1) hm hB ⟨⟨_, h0.drew⟩, rfl⟩ (by simpa using h)
theorem Calls.under {f : FuncId} {args : Array Value} {v : Value} {u : Later B w0} (hB : B ≤ w0.heap.size) (h : Calls P f args u.1 fun e w' => e = .returned v ∧ Below u.1.heap.size u.1 w') :
    Calls P f args u.1 fun e w'' => e = .returned v ∧ ∃ u' : Later B w0, w'' = u'.1 :=
  h.mono fun _ w' ⟨he, hb⟩ => ⟨he, ⟨w', u.2.trans (hb.mono (Nat.le_trans hB u.2.size))⟩, rfl⟩
theorem Calls.underSame {f : FuncId} {args : Array Value} {v : Value} {u : Later B w0} (h : Calls P f args u.1 fun e w' => e = .returned v ∧ u.1 = w') :
    Calls P f args u.1 fun e w'' => e = .returned v ∧ ∃ u' : Later B w0, w'' = u'.1 :=
  h.mono fun _ w' ⟨he, hb⟩ => ⟨he, u, hb.symm⟩
theorem Later.cell {a : Addr} {v : Value} (hb : a.block < B) (h : w0.cell? a = some v) : ∀ u : Later B w0, u.1.cell? a = some v := fun u => (u.2.cell hb).trans h
end
end Go.Proofs.YtefadlbfkhndfaaDoor
