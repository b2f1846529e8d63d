/-
  Contract: CurveText of the reference, from the contract of its CurveValid.
-/
import Derived.Test.YtefadlbfkhndfaaDoorCurveP
namespace Go.Proofs.YtefadlbfkhndfaaDoor
open Go.RowKit
set_option linter.unusedSimpArgs false
set_option linter.unusedVariables false

def knT (p : Pc) : List UInt8 := Lib.decDigits p.1.toNat ++ ([32] ++ (Lib.decDigits p.2.toNat ++ [10]))
def knotsT (l : List Pc) : List UInt8 := l.flatMap knT
def curveT (l : List Pc) : List UInt8 := if curveB l = true then knotsT l else []
theorem knotsT_snoc {l : List Pc} {k : Nat} {p : Pc} (h : l[k]? = some p) : knotsT (l.take (k + 1)) = knotsT (l.take k) ++ knT p := by
  unfold knotsT; rw [take_snoc h, List.flatMap_append]; simp
theorem knadd_at (a b c : ByteArray) (h : a.size + b.size ≤ 1000000) (hc : a ++ b = c) : ∀ W : World, (Op.stringOp .add a b).run Tryd.prog W = .ok (.string c) W := fun W => by
  rw [← hc]; exact run_string_add_sum (P := Tryd.prog) (w := W) a b (by omega)
theorem kndec_tx {u : Nat} (h : u ≤ 100000) : (tx (Lib.decDigits u)).size ≤ 6 := by rw [tx_size]; exact dec_short h

end Go.Proofs.YtefadlbfkhndfaaDoor
