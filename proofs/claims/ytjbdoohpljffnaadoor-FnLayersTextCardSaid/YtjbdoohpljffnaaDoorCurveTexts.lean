/-
  Contracts: CurveText of the reference and of the program.
-/
import Derived.Test.YtjbdoohpljffnaaDoorCurveText
import Derived.Test.YtjbdoohpljffnaaDoorCurveTextI
import Derived.Test.YtjbdoohpljffnaaDoorCurveV
import Derived.Test.YtjbdoohpljffnaaDoorCurveVS
namespace Go.Proofs.YtjbdoohpljffnaaDoor
open Go.RowKit

theorem specCurveText_any (A : Option Addr) (n c : Nat) (l : List Pc) (w : World) (h : Arr PP 2 w w.heap.size A n l) (hn : n ≤ 1099511627776) :
    Calls Tryd.prog 17 #[.slice A n c] w fun e w' => e = .returned (.string (tx (curveT l))) ∧ Below w.heap.size w w' :=
  specCurveText_of A n c l w h hn (fun W hW => specCurveValid_any A n c l W hW hn)
theorem implCurveText_any (A : Option Addr) (n c : Nat) (l : List Pc) (w : World) (h : Arr PP 2 w w.heap.size A n l) (hn : n ≤ 1099511627776) (hT : Tab w) :
    Calls Tryd.prog 19 #[.slice A n c] w fun e w' => e = .returned (.string (tx (curveT l))) ∧ Below w.heap.size w w' :=
  implCurveText_of A n c l w h hn hT (implCurveValid_any A n c l w h hn)
end Go.Proofs.YtjbdoohpljffnaaDoor
