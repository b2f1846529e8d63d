/-
  Contracts: CoreText of the reference and of the program.
-/
import Derived.Test.YtefadlbfkhndfaaDoorBuilder
import Derived.Test.YtefadlbfkhndfaaDoorCoreV
import Derived.Test.YtefadlbfkhndfaaDoorPlainS
import Derived.Test.YtefadlbfkhndfaaDoorAppend
import Derived.Lib.Join
import Derived.Deep.RegionHeld3
namespace Go.Proofs.YtefadlbfkhndfaaDoor
open Go.RowKit
set_option linter.unusedSimpArgs false
set_option linter.unusedVariables false

/-! ### Plain words -/
def pcT (p : Pc) : List UInt8 := Lib.decDigits p.1.toNat ++ ([45] ++ Lib.decDigits p.2.toNat)
def rowsT (l : List Pc) : List UInt8 := Lib.join (l.map pcT) [32]
def coreT (l : List Pc) : List UInt8 := if coreB l = true then (if l.length = 0 then [45] else rowsT l) else []
theorem join_snoc (xs : List (List UInt8)) (x sep : List UInt8) (h : xs ≠ []) : Lib.join (xs ++ [x]) sep = Lib.join xs sep ++ (sep ++ x) := by
  cases xs with
  | nil => exact absurd rfl h
  | cons y t => rw [List.cons_append, Lib.join_cons, Lib.join_cons]; simp [Lib.joinTail]
theorem rowsT_one {l : List Pc} {p : Pc} (h : l[0]? = some p) : rowsT (l.take 1) = pcT p := by
  cases l with
  | nil => simp at h
  | cons q t => simp at h; subst h; simp [rowsT, Lib.join_one]
theorem rowsT_snoc {l : List Pc} {k : Nat} {p : Pc} (h : l[k]? = some p) (h0 : 0 < k) : rowsT (l.take (k + 1)) = rowsT (l.take k) ++ ([32] ++ pcT p) := by
  unfold rowsT
  rw [take_snoc h, List.map_append]
  refine join_snoc _ _ _ ?_
  intro e
  have h1 : ((l.take k).map pcT).length = 0 := by rw [e]; rfl
  have hl := (List.getElem?_eq_some_iff.1 h).1
  rw [List.length_map, List.length_take] at h1
  omega
theorem infoStr : (Tryd.prog.info? 9).map (fun i => (i.zero, i.size, i.bytes)) = some (some (.string ⟨#[]⟩), 1, 16) := by kernel_rfl
def ST (s : ByteArray) : List Value := [.string s]
theorem ST_length (s : ByteArray) : (ST s).length = 1 := rfl
theorem one_ST (s : ByteArray) : ∀ u ∈ ST s, u.oneCell' = true := by
  intro u hu; simp [ST] at hu; subst hu; rfl
theorem Own.litST (w : World) (base : Nat) (T : TypeId) (s : ByteArray) (hb : base ≤ w.heap.size) : Own ST 1 (w.alloc (.cells #[.string s] T)) base T (.slice (some ⟨w.heap.size, 0, none⟩) 1 1) 1 [s] :=
  ⟨rfl, World.ownsRow_lit w #[.string s] 1 hb (by unfold maxLen; omega) rfl⟩
/-- The sum of two texts, wherever it is reckoned. -/
theorem add_at (a b c : ByteArray) (h : a.size + b.size ≤ 1000000) (hc : a ++ b = c) : ∀ W : World, (Op.stringOp .add a b).run Tryd.prog W = .ok (.string c) W := fun W => by
  rw [← hc]; exact run_string_add_sum (P := Tryd.prog) (w := W) a b (by omega)
theorem dec_tx {u : Nat} (h : u ≤ 100000) : (tx (Lib.decDigits u)).size ≤ 6 := by rw [tx_size]; exact dec_short h

end Go.Proofs.YtefadlbfkhndfaaDoor
