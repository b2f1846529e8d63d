/-
  Contracts: the reference's l6Dec; words for texts.
-/
import Derived.Test.YtefadlbfkhndfaaDoorKit
import Derived.Test.YtefadlbfkhndfaaDoorUnder
import Derived.Deep.RegionHeld3
import Derived.Lib.ItoaNum
import Derived.Laws.IdiomStrings
namespace Go.Proofs.YtefadlbfkhndfaaDoor
open Go.RowKit
set_option linter.unusedSimpArgs false
set_option linter.unusedVariables false

/-- A text as the model holds it. -/
def tx (l : List UInt8) : ByteArray := ⟨l.toArray⟩
theorem tx_size (l : List UInt8) : (tx l).size = l.length := by simp [tx, ByteArray.size]
theorem tx_add (a b : List UInt8) : tx a ++ tx b = tx (a ++ b) := by
  apply ByteArray.ext
  simp [tx]
theorem ret_str {a b : ByteArray} (h : a = b) : Ending.returned (.string a) = .returned (.string b) := by rw [h]
theorem dec_len : ∀ (k u : Nat), u < 10 ^ (k + 1) → (Lib.decDigits u).length ≤ k + 1 := by
  intro k
  induction k with
  | zero => intro u h; rw [Lib.decDigits, dif_pos (by omega)]; simp
  | succ k ih =>
    intro u h
    rw [Lib.decDigits]
    split
    · simp
    · have := ih (u / 10) (by rw [Nat.div_lt_iff_lt_mul (by omega), ← Nat.pow_succ]; exact h)
      simp; omega
theorem dec_short {u : Nat} (h : u ≤ 100000) : (Lib.decDigits u).length ≤ 6 := dec_len 5 u (by omega)

theorem new_one (w : World) (a : Value) (T : TypeId) : (w.alloc (.cells #[a] T)).cell? ⟨w.heap.size, 0, none⟩ = some a := cell_new1 w a T 0 a rfl
theorem new_two (w : World) (a b : Value) (T : TypeId) : (w.alloc (.cells #[a, b] T)).cell? ⟨w.heap.size, 0, none⟩ = some a ∧ (w.alloc (.cells #[a, b] T)).cell? ⟨w.heap.size, 1, none⟩ = some b :=
  ⟨cell_new2 w a b T 0 a rfl, cell_new2 w a b T 1 b rfl⟩
theorem new_oneD (w : World) (a : Value) (T : TypeId) : (w.drew.alloc (.cells #[a] T)).cell? ⟨w.heap.size, 0, none⟩ = some a := new_one w.drew a T
/-- A slice of one byte becomes a text. -/
theorem conv_one {d : Nat} (h : d < 256) (W : World) (g : Nat) (hc : W.cell? ⟨g, 0, none⟩ = some (.int .u8 (d : Int))) :
    (convert 22 9 (.slice (some ⟨g, 0, none⟩) 1 1)).run Tryd.prog W = .ok (.string (tx [UInt8.ofNat d])) W :=
  run_convert_bytes_back (P := Tryd.prog) W 22 9 5 ⟨g, 0, none⟩ 1 [UInt8.ofNat d] Tryd.underlying22 Tryd.underlying5 Tryd.underlying9 (fun j hj => by
    obtain rfl : j = 0 := by simpa using hj
    simp only [Addr.add_lit]
    rw [show (0 : Nat) + 0 = 0 from rfl, hc]
    simp
    omega)

end Go.Proofs.YtefadlbfkhndfaaDoor
