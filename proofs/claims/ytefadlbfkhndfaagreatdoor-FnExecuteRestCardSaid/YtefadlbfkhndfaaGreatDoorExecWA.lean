/-
  Contracts: the program's (*script).execute at a line that is not known.
-/
import Derived.Test.YtefadlbfkhndfaaGreatDoorGH
import Derived.Test.YtefadlbfkhndfaaGreatDoorGC
import Derived.Maps.AppendAt
import Derived.Deep.AppendLies
namespace Go.Proofs.YtefadlbfkhndfaaGreatDoor
open Go.RowKit Go.Maps Go.WideMaps
set_option linter.unusedSimpArgs false
set_option linter.unusedVariables false

set_option maxRecDepth 100000 in
set_option maxHeartbeats 8000000 in
theorem exec_what_none (g k n : Nat) (c : List UInt8) (hc9 : c.length ≤ 1000000) (hn : 1 ≤ n) (hn9 : n ≤ 1000000) (w : World) (hk : k < w.heap.size)
    (c0 : w.cell? ⟨k, 0, none⟩ = some (.string (tx c))) (hW : wantOf c = none) :
    Calls Tryz.prog 45 #[.pointer (some ⟨g, 0, none⟩), .slice (some ⟨k, 0, none⟩) n n] w fun e w' =>
      e = .returned (.tuple #[.string (tx whatT), .bool true]) ∧ Below w.heap.size w w' := by
  have k0 : keyOf Tryz.prog 9 (.string (tx wPiece)) = some (.string wPiece) := by rw [keyOf_string_mk Tryz.underlying9 (by rw [tx_size]; decide)]; rfl
  have k1 : keyOf Tryz.prog 9 (.string (tx wCut)) = some (.string wCut) := by rw [keyOf_string_mk Tryz.underlying9 (by rw [tx_size]; decide)]; rfl
  have k2 : keyOf Tryz.prog 9 (.string (tx wJoin)) = some (.string wJoin) := by rw [keyOf_string_mk Tryz.underlying9 (by rw [tx_size]; decide)]; rfl
  have k3 : keyOf Tryz.prog 9 (.string (tx wLayer)) = some (.string wLayer) := by rw [keyOf_string_mk Tryz.underlying9 (by rw [tx_size]; decide)]; rfl
  have k4 : keyOf Tryz.prog 9 (.string (tx wCore)) = some (.string wCore) := by rw [keyOf_string_mk Tryz.underlying9 (by rw [tx_size]; decide)]; rfl
  have k5 : keyOf Tryz.prog 9 (.string (tx wLength)) = some (.string wLength) := by rw [keyOf_string_mk Tryz.underlying9 (by rw [tx_size]; decide)]; rfl
  have k6 : keyOf Tryz.prog 9 (.string (tx wCount)) = some (.string wCount) := by rw [keyOf_string_mk Tryz.underlying9 (by rw [tx_size]; decide)]; rfl
  have k7 : keyOf Tryz.prog 9 (.string (tx wAge)) = some (.string wAge) := by rw [keyOf_string_mk Tryz.underlying9 (by rw [tx_size]; decide)]; rfl
  have k8 : keyOf Tryz.prog 9 (.string (tx wYear)) = some (.string wYear) := by rw [keyOf_string_mk Tryz.underlying9 (by rw [tx_size]; decide)]; rfl
  have d0 := wD_step (i := 0) rfl
  have d1 := wD_step (i := 1) rfl
  have d2 := wD_step (i := 2) rfl
  have d3 := wD_step (i := 3) rfl
  have d4 := wD_step (i := 4) rfl
  have d5 := wD_step (i := 5) rfl
  have d6 := wD_step (i := 6) rfl
  have d7 := wD_step (i := 7) rfl
  have d8 := wD_step (i := 8) rfl
  have v0 : RM (.int .i64 0) = some (.lit (.int .i64 0), []) := plainElem_int Tryz.underlying3 rfl
  have v1 : RM (.int .i64 1) = some (.lit (.int .i64 1), []) := plainElem_int Tryz.underlying3 rfl
  have v2 : RM (.int .i64 2) = some (.lit (.int .i64 2), []) := plainElem_int Tryz.underlying3 rfl
  have m0 := World.ownsMap_made w Tryz.prog 9 RM
  have hmm := @run_makeMap Tryz.prog
  have kX : keyOf Tryz.prog 9 (.string (tx c)) = some (.string c) := by rw [keyOf_string_mk Tryz.underlying9 (by rw [tx_size]; unfold maxLen; omega)]; first | rfl | (simp [tx])
  have hwh := wantOf_none hW
  have n0 : (0 : Int) < (n : Int) := by omega
  obtain ⟨X, hX⟩ : ∃ X, X = tx c := ⟨_, rfl⟩
  rw [← hX] at kX c0
  clear hX
  go_enter Tryz.func45, Tryz.ntmps45
  go_wp2_with (first
    | (refine wpList_insert_own _ rfl _ _ _ 95 rfl 9 3 SK Tryz.underlying95 RM w.heap.size 0 (wD 0) (wD 1) rfl m0 (by unfold maxLen; omega) _ _ (.string wPiece) rfl rfl k0 _ _ v2 d0 ?_; intro w1 m1 g1)
    | (refine wpList_insert_own _ rfl _ _ _ 95 rfl 9 3 SK Tryz.underlying95 RM w.heap.size 1 (wD 1) (wD 2) rfl m1 (by unfold maxLen; omega) _ _ (.string wCut) rfl rfl k1 _ _ v1 d1 ?_; intro w2 m2 g2)
    | (refine wpList_insert_own _ rfl _ _ _ 95 rfl 9 3 SK Tryz.underlying95 RM w.heap.size 2 (wD 2) (wD 3) rfl m2 (by unfold maxLen; omega) _ _ (.string wJoin) rfl rfl k2 _ _ v0 d2 ?_; intro w3 m3 g3)
    | (refine wpList_insert_own _ rfl _ _ _ 95 rfl 9 3 SK Tryz.underlying95 RM w.heap.size 3 (wD 3) (wD 4) rfl m3 (by unfold maxLen; omega) _ _ (.string wLayer) rfl rfl k3 _ _ v1 d3 ?_; intro w4 m4 g4)
    | (refine wpList_insert_own _ rfl _ _ _ 95 rfl 9 3 SK Tryz.underlying95 RM w.heap.size 4 (wD 4) (wD 5) rfl m4 (by unfold maxLen; omega) _ _ (.string wCore) rfl rfl k4 _ _ v0 d4 ?_; intro w5 m5 g5)
    | (refine wpList_insert_own _ rfl _ _ _ 95 rfl 9 3 SK Tryz.underlying95 RM w.heap.size 5 (wD 5) (wD 6) rfl m5 (by unfold maxLen; omega) _ _ (.string wLength) rfl rfl k5 _ _ v0 d5 ?_; intro w6 m6 g6)
    | (refine wpList_insert_own _ rfl _ _ _ 95 rfl 9 3 SK Tryz.underlying95 RM w.heap.size 6 (wD 6) (wD 7) rfl m6 (by unfold maxLen; omega) _ _ (.string wCount) rfl rfl k6 _ _ v2 d6 ?_; intro w7 m7 g7)
    | (refine wpList_insert_own _ rfl _ _ _ 95 rfl 9 3 SK Tryz.underlying95 RM w.heap.size 7 (wD 7) (wD 8) rfl m7 (by unfold maxLen; omega) _ _ (.string wAge) rfl rfl k7 _ _ v1 d7 ?_; intro w8 m8 g8)
    | (refine wpList_insert_own _ rfl _ _ _ 95 rfl 9 3 SK Tryz.underlying95 RM w.heap.size 8 (wD 8) (wD 9) rfl m8 (by unfold maxLen; omega) _ _ (.string wYear) rfl rfl k8 _ _ v1 d8 ?_; intro w9 m9 g9
       have B9 : Below w.heap.size w w9 := ((Below.refl w.heap.size w).alloc (Nat.le_refl _) _).grown (((((((((g1.trans g2).trans g3).trans g4).trans g5).trans g6).trans g7).trans g8).trans g9)) (by simp) (fun j hj => by injection hj with hj; omega)
       have e0 := (B9.cell (p := ⟨k, 0, none⟩) hk).trans c0
       clear g1 g2 g3 g4 g5 g6 g7 g8 g9 m1 m2 m3 m4 m5 m6 m7 m8)
    | (at_lookup; refine wpList_lookup_own_ok_int _ rfl _ _ 95 rfl 9 3 .i64 SK Tryz.underlying95 Tryz.underlying3 (zeroInt _) w.heap.size 9 (wD 9) rfl m9 _ (.string c) rfl kX ?_
       intro cc hat hwc
       rw [show has (wD 9) (.string c) = false from hwh]
       clear hat hwc m9 m0 hmm k0 k1 k2 k3 k4 k5 k6 k7 k8 d0 d1 d2 d3 d4 d5 d6 d7 d8 hwh v0 v1 v2 kX))
  go_ret2
  exact ⟨rfl, B9⟩

set_option maxRecDepth 100000 in
set_option maxHeartbeats 8000000 in
theorem exec_what_some (g k n : Nat) (c : List UInt8) (hc9 : c.length ≤ 1000000) (hn : 1 ≤ n) (hn9 : n ≤ 1000000) (w : World) (hk : k < w.heap.size)
    (c0 : w.cell? ⟨k, 0, none⟩ = some (.string (tx c))) (v : Int) (hW : wantOf c = some v) (hv0 : 0 ≤ v ∧ v ≤ 2) (hv : v ≠ (n : Int) - 1) :
    Calls Tryz.prog 45 #[.pointer (some ⟨g, 0, none⟩), .slice (some ⟨k, 0, none⟩) n n] w fun e w' =>
      e = .returned (.tuple #[.string (tx whatT), .bool true]) ∧ Below w.heap.size w w' := by
  have k0 : keyOf Tryz.prog 9 (.string (tx wPiece)) = some (.string wPiece) := by rw [keyOf_string_mk Tryz.underlying9 (by rw [tx_size]; decide)]; rfl
  have k1 : keyOf Tryz.prog 9 (.string (tx wCut)) = some (.string wCut) := by rw [keyOf_string_mk Tryz.underlying9 (by rw [tx_size]; decide)]; rfl
  have k2 : keyOf Tryz.prog 9 (.string (tx wJoin)) = some (.string wJoin) := by rw [keyOf_string_mk Tryz.underlying9 (by rw [tx_size]; decide)]; rfl
  have k3 : keyOf Tryz.prog 9 (.string (tx wLayer)) = some (.string wLayer) := by rw [keyOf_string_mk Tryz.underlying9 (by rw [tx_size]; decide)]; rfl
  have k4 : keyOf Tryz.prog 9 (.string (tx wCore)) = some (.string wCore) := by rw [keyOf_string_mk Tryz.underlying9 (by rw [tx_size]; decide)]; rfl
  have k5 : keyOf Tryz.prog 9 (.string (tx wLength)) = some (.string wLength) := by rw [keyOf_string_mk Tryz.underlying9 (by rw [tx_size]; decide)]; rfl
  have k6 : keyOf Tryz.prog 9 (.string (tx wCount)) = some (.string wCount) := by rw [keyOf_string_mk Tryz.underlying9 (by rw [tx_size]; decide)]; rfl
  have k7 : keyOf Tryz.prog 9 (.string (tx wAge)) = some (.string wAge) := by rw [keyOf_string_mk Tryz.underlying9 (by rw [tx_size]; decide)]; rfl
  have k8 : keyOf Tryz.prog 9 (.string (tx wYear)) = some (.string wYear) := by rw [keyOf_string_mk Tryz.underlying9 (by rw [tx_size]; decide)]; rfl
  have d0 := wD_step (i := 0) rfl
  have d1 := wD_step (i := 1) rfl
  have d2 := wD_step (i := 2) rfl
  have d3 := wD_step (i := 3) rfl
  have d4 := wD_step (i := 4) rfl
  have d5 := wD_step (i := 5) rfl
  have d6 := wD_step (i := 6) rfl
  have d7 := wD_step (i := 7) rfl
  have d8 := wD_step (i := 8) rfl
  have v0 : RM (.int .i64 0) = some (.lit (.int .i64 0), []) := plainElem_int Tryz.underlying3 rfl
  have v1 : RM (.int .i64 1) = some (.lit (.int .i64 1), []) := plainElem_int Tryz.underlying3 rfl
  have v2 : RM (.int .i64 2) = some (.lit (.int .i64 2), []) := plainElem_int Tryz.underlying3 rfl
  have m0 := World.ownsMap_made w Tryz.prog 9 RM
  have hmm := @run_makeMap Tryz.prog
  have kX : keyOf Tryz.prog 9 (.string (tx c)) = some (.string c) := by rw [keyOf_string_mk Tryz.underlying9 (by rw [tx_size]; unfold maxLen; omega)]; first | rfl | (simp [tx])
  have hwh := want_has hW
  have q9 : (v == (n : Int) - 1) = false := by simpa using hv
  have q8 : ¬ (v = (n : Int) - 1) := hv
  have n0 : (0 : Int) < (n : Int) := by omega
  obtain ⟨X, hX⟩ : ∃ X, X = tx c := ⟨_, rfl⟩
  rw [← hX] at kX c0
  clear hX
  go_enter Tryz.func45, Tryz.ntmps45
  go_wp2_with (first
    | (refine wpList_insert_own _ rfl _ _ _ 95 rfl 9 3 SK Tryz.underlying95 RM w.heap.size 0 (wD 0) (wD 1) rfl m0 (by unfold maxLen; omega) _ _ (.string wPiece) rfl rfl k0 _ _ v2 d0 ?_; intro w1 m1 g1)
    | (refine wpList_insert_own _ rfl _ _ _ 95 rfl 9 3 SK Tryz.underlying95 RM w.heap.size 1 (wD 1) (wD 2) rfl m1 (by unfold maxLen; omega) _ _ (.string wCut) rfl rfl k1 _ _ v1 d1 ?_; intro w2 m2 g2)
    | (refine wpList_insert_own _ rfl _ _ _ 95 rfl 9 3 SK Tryz.underlying95 RM w.heap.size 2 (wD 2) (wD 3) rfl m2 (by unfold maxLen; omega) _ _ (.string wJoin) rfl rfl k2 _ _ v0 d2 ?_; intro w3 m3 g3)
    | (refine wpList_insert_own _ rfl _ _ _ 95 rfl 9 3 SK Tryz.underlying95 RM w.heap.size 3 (wD 3) (wD 4) rfl m3 (by unfold maxLen; omega) _ _ (.string wLayer) rfl rfl k3 _ _ v1 d3 ?_; intro w4 m4 g4)
    | (refine wpList_insert_own _ rfl _ _ _ 95 rfl 9 3 SK Tryz.underlying95 RM w.heap.size 4 (wD 4) (wD 5) rfl m4 (by unfold maxLen; omega) _ _ (.string wCore) rfl rfl k4 _ _ v0 d4 ?_; intro w5 m5 g5)
    | (refine wpList_insert_own _ rfl _ _ _ 95 rfl 9 3 SK Tryz.underlying95 RM w.heap.size 5 (wD 5) (wD 6) rfl m5 (by unfold maxLen; omega) _ _ (.string wLength) rfl rfl k5 _ _ v0 d5 ?_; intro w6 m6 g6)
    | (refine wpList_insert_own _ rfl _ _ _ 95 rfl 9 3 SK Tryz.underlying95 RM w.heap.size 6 (wD 6) (wD 7) rfl m6 (by unfold maxLen; omega) _ _ (.string wCount) rfl rfl k6 _ _ v2 d6 ?_; intro w7 m7 g7)
    | (refine wpList_insert_own _ rfl _ _ _ 95 rfl 9 3 SK Tryz.underlying95 RM w.heap.size 7 (wD 7) (wD 8) rfl m7 (by unfold maxLen; omega) _ _ (.string wAge) rfl rfl k7 _ _ v1 d7 ?_; intro w8 m8 g8)
    | (refine wpList_insert_own _ rfl _ _ _ 95 rfl 9 3 SK Tryz.underlying95 RM w.heap.size 8 (wD 8) (wD 9) rfl m8 (by unfold maxLen; omega) _ _ (.string wYear) rfl rfl k8 _ _ v1 d8 ?_; intro w9 m9 g9
       have B9 : Below w.heap.size w w9 := ((Below.refl w.heap.size w).alloc (Nat.le_refl _) _).grown (((((((((g1.trans g2).trans g3).trans g4).trans g5).trans g6).trans g7).trans g8).trans g9)) (by simp) (fun j hj => by injection hj with hj; omega)
       have e0 := (B9.cell (p := ⟨k, 0, none⟩) hk).trans c0
       clear g1 g2 g3 g4 g5 g6 g7 g8 g9 m1 m2 m3 m4 m5 m6 m7 m8)
    | (at_lookup; refine wpList_lookup_own_ok_int _ rfl _ _ 95 rfl 9 3 .i64 SK Tryz.underlying95 Tryz.underlying3 (zeroInt _) w.heap.size 9 (wD 9) rfl m9 _ (.string c) rfl kX ?_
       intro cc hat hwc
       obtain rfl : cc = v := by have h2 := hwh.2; rw [← wD_all, hat] at h2; injection h2 with h2; injection h2
       rw [show has (wD 9) (.string c) = true from hwh.1]
       clear hat hwc m9 m0 hmm k0 k1 k2 k3 k4 k5 k6 k7 k8 d0 d1 d2 d3 d4 d5 d6 d7 d8 hwh v0 v1 v2 kX))
  go_ret2
  exact ⟨rfl, B9⟩
end Go.Proofs.YtefadlbfkhndfaaGreatDoor
