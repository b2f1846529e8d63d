/-
  Contract: one of the texts of a list, as the draws take it.
-/
import Derived.Test.YtefadlbfkhndfaaGreatDoorGE
import Derived.Test.YtefadlbfkhndfaaGreatDoorGC
import Derived.Test.YtefadlbfkhndfaaGreatDoorSpecExec
namespace Go.Proofs.YtefadlbfkhndfaaGreatDoor
open Go.RowKit
set_option linter.unusedSimpArgs false
set_option linter.unusedVariables false

set_option maxHeartbeats 1000000 in
/-- One of the texts of a list. -/
theorem ofE_any (g p : Nat) (A : Option Addr) (m c : Nat) (L : List ByteArray) (w : World) (h : Rd w g 104 p) (hp : p ≤ 1000000) (ha : Arr ST 1 w w.heap.size A m L) (hm : 0 < m) (hm1 : m ≤ 1000) (hAg : ∀ b o, A = some ⟨b, o, none⟩ → b ≠ g) :
    Calls Tryz.prog 85 #[.pointer (some ⟨g, 0, none⟩), .slice A m c] w fun e w' => ∃ S, S ∈ L ∧ e = .returned (.string S) ∧ Rd w' g 104 (p + 1) ∧ w.grownBy w' (some g) := by
  have C := Lib.hid (pick_any g p m w h (by omega) (by omega))
  clear h
  go_enter Tryz.func85, Tryz.ntmps85
  go_wp2_with fail
  refine C.out.mono ?_
  rintro e w1 ⟨a, rfl, ham, hr, hg⟩
  have ham' : a < m := by omega
  obtain ⟨b, off, x, rfl, hbB, hx, c1⟩ := ha.strAt ham'
  have hne := hAg b off rfl
  have c1' := hg.cell c1 (fun e => hne (by injection e))
  have ik : (a : Int) < (m : Int) := by omega
  have ik0 : (0 : Int) ≤ (a : Int) := by omega
  clear c1 C
  go_wp2
  go_ret
  exact ⟨x, List.mem_of_getElem? hx, rfl, hr, hg⟩

/-- Texts of a literal: a row of the call's own. -/
theorem Own.litSTsE (w : World) (base : Nat) (T : TypeId) (L : List ByteArray) (hb : base ≤ w.heap.size) (hl : L.length ≤ 1000) : Own ST 1 (w.alloc (.cells (L.map Value.string).toArray T)) base T (.slice (some ⟨w.heap.size, 0, none⟩) L.length L.length) L.length L := by
  have e : L.flatMap ST = L.map Value.string := by
    induction L with
    | nil => rfl
    | cons x L ih => rw [List.flatMap_cons, List.map_cons, ih (by simp at hl; omega)]; rfl
  refine ⟨rfl, ?_⟩
  rw [e]
  have : (w.alloc (.cells (L.map Value.string).toArray T)).ownsRow base T 1 (.slice (some ⟨w.heap.size, 0, none⟩) L.length L.length) L.length (L.map Value.string).toArray.toList := World.ownsRow_lit w (L.map Value.string).toArray L.length hb (by unfold maxLen; omega) (by simp)
  exact this
end Go.Proofs.YtefadlbfkhndfaaGreatDoor
