/-
  Contracts: l51Said, l51Core of the reference.
-/
import Derived.Test.YtefadlbfkhndfaaGreatDoorGD
import Derived.Test.YtefadlbfkhndfaaGreatDoorGC
import Derived.Deep.RegionWith
namespace Go.Proofs.YtefadlbfkhndfaaGreatDoor
open Go.RowKit
set_option linter.unusedSimpArgs false
set_option linter.unusedVariables false

def saidT (ok : Bool) : List UInt8 := (if ok = true then okT else noT) ++ [10]
theorem l51Said_any (ok : Bool) (w : World) : Calls Tryz.prog 93 #[.bool ok] w fun e w' => e = .returned (.string (tx (saidT ok))) ∧ w = w' := by
  cases ok with
  | true =>
    go_enter Tryz.func93, Tryz.ntmps93
    go_wp2
    go_ret
    exact ⟨rfl, rfl⟩
  | false =>
    go_enter Tryz.func93, Tryz.ntmps93
    go_wp2
    go_ret
    exact ⟨rfl, rfl⟩
theorem st_set {w : World} {g : Nat} {a b a' b' : Value} (r0 : w.cell? ⟨g, 0, none⟩ = some a') (r1 : w.cell? ⟨g, 1, none⟩ = some b') :
    ((w.setCell ⟨g, 0, none⟩ a).setCell ⟨g, 1, none⟩ b).cell? ⟨g, 0, none⟩ = some a ∧ ((w.setCell ⟨g, 0, none⟩ a).setCell ⟨g, 1, none⟩ b).cell? ⟨g, 1, none⟩ = some b := by
  have h0 := World.cell?_setCell_same' w ⟨g, 0, none⟩ a (by rw [r0]; rfl)
  refine ⟨?_, World.cell?_setCell_same' _ _ _ ?_⟩
  · rw [World.cell?_setCell_other _ ⟨g, 1, none⟩ ⟨g, 0, none⟩ b (by intro e; injection e with _ e; cases e)]
    exact h0
  · rw [World.cell?_setCell_other w ⟨g, 0, none⟩ ⟨g, 1, none⟩ a (by intro e; injection e with _ e; cases e), r1]
    rfl

set_option maxHeartbeats 1000000 in
theorem l51Core_yes (a b x : Value) (w : World) (hx : ∃ A n c, x = .slice A n c) (ha : ∃ A n c, a = .slice A n c) (hb : ∃ A n c, b = .slice A n c) :
    Calls Tryz.prog 72 #[.agg #[a, b], x, .bool true] w fun e w' => e = .returned (.tuple #[.agg #[x, b], .string (tx (saidT true))]) ∧ Below w.heap.size w w' := by
  obtain ⟨A1, n1, c1, rfl⟩ := hx
  obtain ⟨A2, n2, c2, rfl⟩ := ha
  obtain ⟨A3, n3, c3, rfl⟩ := hb
  have K := Lib.hid (fun W => l51Said_any true W)
  go_enter Tryz.func72, Tryz.ntmps72
  go_wp2_with fail
  go_region_with (go_at_call 93; refine (K.out _).mono ?_; rintro e w' ⟨rfl, rfl⟩)
  all_goals
    go_wp2
    refine bodyPost_ret (v := .tuple #[.agg #[.slice A1 n1 c1, .slice A3 n3 c3], .string (tx (saidT true))]) (by simp [results, Tryz.results72, go_sem]) rfl ⟨rfl, ?_⟩
    exact (((Below.refl w.heap.size w).alloc (Nat.le_refl _) _).alloc (by simp) _).drew
set_option maxHeartbeats 1000000 in
theorem l51Core_no (a b x : Value) (w : World) (hx : ∃ A n c, x = .slice A n c) (ha : ∃ A n c, a = .slice A n c) (hb : ∃ A n c, b = .slice A n c) :
    Calls Tryz.prog 72 #[.agg #[a, b], x, .bool false] w fun e w' => e = .returned (.tuple #[.agg #[a, b], .string (tx (saidT false))]) ∧ Below w.heap.size w w' := by
  obtain ⟨A1, n1, c1, rfl⟩ := hx
  obtain ⟨A2, n2, c2, rfl⟩ := ha
  obtain ⟨A3, n3, c3, rfl⟩ := hb
  have K := Lib.hid (fun W => l51Said_any false W)
  go_enter Tryz.func72, Tryz.ntmps72
  go_wp2_with fail
  go_region_with (go_at_call 93; refine (K.out _).mono ?_; rintro e w' ⟨rfl, rfl⟩)
  all_goals
    go_wp2
    refine bodyPost_ret (v := .tuple #[.agg #[.slice A2 n2 c2, .slice A3 n3 c3], .string (tx (saidT false))]) (by simp [results, Tryz.results72, go_sem]) rfl ⟨rfl, ?_⟩
    exact (((Below.refl w.heap.size w).alloc (Nat.le_refl _) _).alloc (by simp) _).drew

/-! ### The state of the reference's script, and what a line hands back -/
def SV (w : World) (v : Value) (s : St) : Prop := ∃ Ac nc cc Al nl cl, v = .agg #[.slice Ac nc cc, .slice Al nl cl] ∧ Arr PP 2 w w.heap.size Ac nc s.core ∧ Arr LL 2 w w.heap.size Al nl s.lays ∧ nc ≤ cc ∧ nl ≤ cl
theorem SV.below {w w' : World} {v : Value} {s : St} (h : SV w v s) (hb : Below w.heap.size w w') : SV w' v s := by
  obtain ⟨Ac, nc, cc, Al, nl, cl, rfl, h1, h2, h3, h4⟩ := h
  exact ⟨Ac, nc, cc, Al, nl, cl, rfl, (h1.below hb (Nat.le_refl _)).more hb.size, (h2.below hb (Nat.le_refl _)).more hb.size, h3, h4⟩
def RetS (w : World) (s : St) (t : List UInt8) (e : Ending) (w' : World) : Prop := ∃ v, e = .returned (.tuple #[v, .string (tx t)]) ∧ SV w' v s ∧ Below w.heap.size w w'
end Go.Proofs.YtefadlbfkhndfaaGreatDoor
