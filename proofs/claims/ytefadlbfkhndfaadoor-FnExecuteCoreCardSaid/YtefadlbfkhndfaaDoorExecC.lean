/-
  Contracts: the program's (*script).execute at the lines "core" and "length".
-/
import Derived.Test.YtefadlbfkhndfaaDoorExecY
import Derived.Test.YtefadlbfkhndfaaDoorScr
import Derived.Test.YtefadlbfkhndfaaDoorCoreTextI
import Derived.Test.YtefadlbfkhndfaaDoorCoreLen
namespace Go.Proofs.YtefadlbfkhndfaaDoor
open Go.RowKit Go.Maps Go.WideMaps
set_option linter.unusedSimpArgs false
set_option linter.unusedVariables false

theorem Scr.core {w : World} {g : Nat} {s : St} (h : Scr w g s) : ∃ Ac cc, w.cell? ⟨g, 0, none⟩ = some (.slice Ac s.core.length cc) ∧ Arr PP 2 w w.heap.size Ac s.core.length s.core := by
  obtain ⟨Ac, nc, cc, Al, nl, cl, h1, h2, h3⟩ := h
  have e := h2.1
  subst e
  exact ⟨Ac, cc, (Lib.cell_of_heap h1 0).trans rfl, h2.arr PP_length⟩

set_option maxRecDepth 100000 in
set_option maxHeartbeats 8000000 in
theorem exec_core_any (g k : Nat) (s : St) (w : World) (hs : Scr w g s) (hl : s.core.length ≤ 1000) (hT : Tab w) (hk : k < w.heap.size) (c0 : w.cell? ⟨k, 0, none⟩ = some (.string (tx wCore))) :
    Calls Tryd.prog 26 #[.pointer (some ⟨g, 0, none⟩), .slice (some ⟨k, 0, none⟩) 1 1] w fun e w' =>
      e = .returned (.tuple #[.string (tx (coreT s.core)), .bool true]) ∧ Below w.heap.size w w' := by
  have k0 : keyOf Tryd.prog 9 (.string (tx wPiece)) = some (.string wPiece) := by rw [keyOf_string_mk Tryd.underlying9 (by rw [tx_size]; decide)]; rfl
  have k1 : keyOf Tryd.prog 9 (.string (tx wCut)) = some (.string wCut) := by rw [keyOf_string_mk Tryd.underlying9 (by rw [tx_size]; decide)]; rfl
  have k2 : keyOf Tryd.prog 9 (.string (tx wJoin)) = some (.string wJoin) := by rw [keyOf_string_mk Tryd.underlying9 (by rw [tx_size]; decide)]; rfl
  have k3 : keyOf Tryd.prog 9 (.string (tx wLayer)) = some (.string wLayer) := by rw [keyOf_string_mk Tryd.underlying9 (by rw [tx_size]; decide)]; rfl
  have k4 : keyOf Tryd.prog 9 (.string (tx wCore)) = some (.string wCore) := by rw [keyOf_string_mk Tryd.underlying9 (by rw [tx_size]; decide)]; rfl
  have k5 : keyOf Tryd.prog 9 (.string (tx wLength)) = some (.string wLength) := by rw [keyOf_string_mk Tryd.underlying9 (by rw [tx_size]; decide)]; rfl
  have k6 : keyOf Tryd.prog 9 (.string (tx wCount)) = some (.string wCount) := by rw [keyOf_string_mk Tryd.underlying9 (by rw [tx_size]; decide)]; rfl
  have k7 : keyOf Tryd.prog 9 (.string (tx wAge)) = some (.string wAge) := by rw [keyOf_string_mk Tryd.underlying9 (by rw [tx_size]; decide)]; rfl
  have k8 : keyOf Tryd.prog 9 (.string (tx wYear)) = some (.string wYear) := by rw [keyOf_string_mk Tryd.underlying9 (by rw [tx_size]; decide)]; rfl
  have d0 := wD_step (i := 0) rfl
  have d1 := wD_step (i := 1) rfl
  have d2 := wD_step (i := 2) rfl
  have d3 := wD_step (i := 3) rfl
  have d4 := wD_step (i := 4) rfl
  have d5 := wD_step (i := 5) rfl
  have d6 := wD_step (i := 6) rfl
  have d7 := wD_step (i := 7) rfl
  have d8 := wD_step (i := 8) rfl
  have v0 : RM (.int .i64 0) = some (.lit (.int .i64 0), []) := plainElem_int Tryd.underlying3 rfl
  have v1 : RM (.int .i64 1) = some (.lit (.int .i64 1), []) := plainElem_int Tryd.underlying3 rfl
  have v2 : RM (.int .i64 2) = some (.lit (.int .i64 2), []) := plainElem_int Tryd.underlying3 rfl
  have m0 := World.ownsMap_made w Tryd.prog 9 RM
  have hmm := @run_makeMap Tryd.prog
  have hwh := want_has (x := wCore) (k := 0) rfl
  have HT := Lib.hid hT
  have HS := Lib.hid hs
  clear hT hs
  go_enter Tryd.func26, Tryd.ntmps26
  go_wp2_with (first
    | (refine wpList_insert_own _ rfl _ _ _ 65 rfl 9 3 SK Tryd.underlying65 RM w.heap.size 0 (wD 0) (wD 1) rfl m0 (by unfold maxLen; omega) _ _ (.string wPiece) rfl rfl k0 _ _ v2 d0 ?_; intro w1 m1 g1)
    | (refine wpList_insert_own _ rfl _ _ _ 65 rfl 9 3 SK Tryd.underlying65 RM w.heap.size 1 (wD 1) (wD 2) rfl m1 (by unfold maxLen; omega) _ _ (.string wCut) rfl rfl k1 _ _ v1 d1 ?_; intro w2 m2 g2)
    | (refine wpList_insert_own _ rfl _ _ _ 65 rfl 9 3 SK Tryd.underlying65 RM w.heap.size 2 (wD 2) (wD 3) rfl m2 (by unfold maxLen; omega) _ _ (.string wJoin) rfl rfl k2 _ _ v0 d2 ?_; intro w3 m3 g3)
    | (refine wpList_insert_own _ rfl _ _ _ 65 rfl 9 3 SK Tryd.underlying65 RM w.heap.size 3 (wD 3) (wD 4) rfl m3 (by unfold maxLen; omega) _ _ (.string wLayer) rfl rfl k3 _ _ v1 d3 ?_; intro w4 m4 g4)
    | (refine wpList_insert_own _ rfl _ _ _ 65 rfl 9 3 SK Tryd.underlying65 RM w.heap.size 4 (wD 4) (wD 5) rfl m4 (by unfold maxLen; omega) _ _ (.string wCore) rfl rfl k4 _ _ v0 d4 ?_; intro w5 m5 g5)
    | (refine wpList_insert_own _ rfl _ _ _ 65 rfl 9 3 SK Tryd.underlying65 RM w.heap.size 5 (wD 5) (wD 6) rfl m5 (by unfold maxLen; omega) _ _ (.string wLength) rfl rfl k5 _ _ v0 d5 ?_; intro w6 m6 g6)
    | (refine wpList_insert_own _ rfl _ _ _ 65 rfl 9 3 SK Tryd.underlying65 RM w.heap.size 6 (wD 6) (wD 7) rfl m6 (by unfold maxLen; omega) _ _ (.string wCount) rfl rfl k6 _ _ v2 d6 ?_; intro w7 m7 g7)
    | (refine wpList_insert_own _ rfl _ _ _ 65 rfl 9 3 SK Tryd.underlying65 RM w.heap.size 7 (wD 7) (wD 8) rfl m7 (by unfold maxLen; omega) _ _ (.string wAge) rfl rfl k7 _ _ v1 d7 ?_; intro w8 m8 g8)
    | (refine wpList_insert_own _ rfl _ _ _ 65 rfl 9 3 SK Tryd.underlying65 RM w.heap.size 8 (wD 8) (wD 9) rfl m8 (by unfold maxLen; omega) _ _ (.string wYear) rfl rfl k8 _ _ v1 d8 ?_; intro w9 m9 g9
       have B9 : Below w.heap.size w w9 := ((Below.refl w.heap.size w).alloc (Nat.le_refl _) _).grown (((((((((g1.trans g2).trans g3).trans g4).trans g5).trans g6).trans g7).trans g8).trans g9)) (by simp) (fun j hj => by injection hj with hj; omega)
       have e0 := (B9.cell (p := ⟨k, 0, none⟩) hk).trans c0
       clear g1 g2 g3 g4 g5 g6 g7 g8 g9 m1 m2 m3 m4 m5 m6 m7 m8)
    | (at_lookup; refine wpList_lookup_own_ok_int _ rfl _ _ 65 rfl 9 3 .i64 SK Tryd.underlying65 Tryd.underlying3 (zeroInt _) w.heap.size 9 (wD 9) rfl m9 _ (.string wCore) rfl k4 ?_
       intro c hat hwc
       obtain rfl : c = 0 := by have h2 := hwh.2; rw [← wD_all, hat] at h2; injection h2 with h2; injection h2
       rw [show has (wD 9) (.string wCore) = true from hwh.1]
       clear hat hwc m9 m0 hmm k0 k1 k2 k3 k4 k5 k6 k7 k8 d0 d1 d2 d3 d4 d5 d6 d7 d8 hwh v0 v1 v2))
  go_loopw [9, 11, 37] (fun _ _ i wr => i = .int .i64 0 ∧ Below w.heap.size w wr) (fun _ _ _ _ => 0)
  case atStart => exact ⟨rfl, B9⟩
  case round =>
    obtain ⟨rfl, hb⟩ := hrel
    have e0' := (hb.cell (p := ⟨k, 0, none⟩) hk).trans c0
    have q0 : ((tx wCore).toList == [112, 105, 101, 99, 101]) = false := tne (a := wCore) (b := wPiece) (by decide)
    have q1 : ((tx wCore).toList == [99, 117, 116]) = false := tne (a := wCore) (b := wCut) (by decide)
    have q2 : ((tx wCore).toList == [106, 111, 105, 110]) = false := tne (a := wCore) (b := wJoin) (by decide)
    have q3 : ((tx wCore).toList == [108, 97, 121, 101, 114]) = false := tne (a := wCore) (b := wLayer) (by decide)
    have q4 : ((tx wCore).toList == [99, 111, 114, 101]) = true := teq wCore
    obtain ⟨Ac, cc, x0, xA⟩ := (HS.out.below hb (Nat.le_refl _)).core
    have KT := Lib.hid (implCoreText_any Ac s.core.length cc s.core wr xA (by omega) (HT.out.below hb (Nat.le_refl _)))
    obtain ⟨T, hTT⟩ : ∃ T, T = tx (coreT s.core) := ⟨_, rfl⟩
    rw [← hTT] at KT
    have HTT := Lib.hid hTT
    have HB := Lib.hid hb
    clear hTT xA HS HT hb
    go_wp2_with (go_at_call 17; refine KT.out.mono ?_; rintro e w2 ⟨rfl, b2⟩)
    go_ret2
    exact ⟨ret_sb HTT.out rfl, HB.out.trans (b2.mono HB.out.size)⟩

set_option maxRecDepth 100000 in
set_option maxHeartbeats 8000000 in
theorem exec_length_any (g k u : Nat) (s : St) (w : World) (hs : Scr w g s) (hl : s.core.length ≤ 1000) (hu : coreLen s.core = (u : Int)) (hu' : u ≤ 10000000) (hT : Tab w) (hk : k < w.heap.size) (c0 : w.cell? ⟨k, 0, none⟩ = some (.string (tx wLength))) :
    Calls Tryd.prog 26 #[.pointer (some ⟨g, 0, none⟩), .slice (some ⟨k, 0, none⟩) 1 1] w fun e w' =>
      e = .returned (.tuple #[.string (tx (dec u)), .bool true]) ∧ Below w.heap.size w w' := by
  have k0 : keyOf Tryd.prog 9 (.string (tx wPiece)) = some (.string wPiece) := by rw [keyOf_string_mk Tryd.underlying9 (by rw [tx_size]; decide)]; rfl
  have k1 : keyOf Tryd.prog 9 (.string (tx wCut)) = some (.string wCut) := by rw [keyOf_string_mk Tryd.underlying9 (by rw [tx_size]; decide)]; rfl
  have k2 : keyOf Tryd.prog 9 (.string (tx wJoin)) = some (.string wJoin) := by rw [keyOf_string_mk Tryd.underlying9 (by rw [tx_size]; decide)]; rfl
  have k3 : keyOf Tryd.prog 9 (.string (tx wLayer)) = some (.string wLayer) := by rw [keyOf_string_mk Tryd.underlying9 (by rw [tx_size]; decide)]; rfl
  have k4 : keyOf Tryd.prog 9 (.string (tx wCore)) = some (.string wCore) := by rw [keyOf_string_mk Tryd.underlying9 (by rw [tx_size]; decide)]; rfl
  have k5 : keyOf Tryd.prog 9 (.string (tx wLength)) = some (.string wLength) := by rw [keyOf_string_mk Tryd.underlying9 (by rw [tx_size]; decide)]; rfl
  have k6 : keyOf Tryd.prog 9 (.string (tx wCount)) = some (.string wCount) := by rw [keyOf_string_mk Tryd.underlying9 (by rw [tx_size]; decide)]; rfl
  have k7 : keyOf Tryd.prog 9 (.string (tx wAge)) = some (.string wAge) := by rw [keyOf_string_mk Tryd.underlying9 (by rw [tx_size]; decide)]; rfl
  have k8 : keyOf Tryd.prog 9 (.string (tx wYear)) = some (.string wYear) := by rw [keyOf_string_mk Tryd.underlying9 (by rw [tx_size]; decide)]; rfl
  have d0 := wD_step (i := 0) rfl
  have d1 := wD_step (i := 1) rfl
  have d2 := wD_step (i := 2) rfl
  have d3 := wD_step (i := 3) rfl
  have d4 := wD_step (i := 4) rfl
  have d5 := wD_step (i := 5) rfl
  have d6 := wD_step (i := 6) rfl
  have d7 := wD_step (i := 7) rfl
  have d8 := wD_step (i := 8) rfl
  have v0 : RM (.int .i64 0) = some (.lit (.int .i64 0), []) := plainElem_int Tryd.underlying3 rfl
  have v1 : RM (.int .i64 1) = some (.lit (.int .i64 1), []) := plainElem_int Tryd.underlying3 rfl
  have v2 : RM (.int .i64 2) = some (.lit (.int .i64 2), []) := plainElem_int Tryd.underlying3 rfl
  have m0 := World.ownsMap_made w Tryd.prog 9 RM
  have hmm := @run_makeMap Tryd.prog
  have hwh := want_has (x := wLength) (k := 0) rfl
  have HT := Lib.hid hT
  have HS := Lib.hid hs
  clear hT hs
  go_enter Tryd.func26, Tryd.ntmps26
  go_wp2_with (first
    | (refine wpList_insert_own _ rfl _ _ _ 65 rfl 9 3 SK Tryd.underlying65 RM w.heap.size 0 (wD 0) (wD 1) rfl m0 (by unfold maxLen; omega) _ _ (.string wPiece) rfl rfl k0 _ _ v2 d0 ?_; intro w1 m1 g1)
    | (refine wpList_insert_own _ rfl _ _ _ 65 rfl 9 3 SK Tryd.underlying65 RM w.heap.size 1 (wD 1) (wD 2) rfl m1 (by unfold maxLen; omega) _ _ (.string wCut) rfl rfl k1 _ _ v1 d1 ?_; intro w2 m2 g2)
    | (refine wpList_insert_own _ rfl _ _ _ 65 rfl 9 3 SK Tryd.underlying65 RM w.heap.size 2 (wD 2) (wD 3) rfl m2 (by unfold maxLen; omega) _ _ (.string wJoin) rfl rfl k2 _ _ v0 d2 ?_; intro w3 m3 g3)
    | (refine wpList_insert_own _ rfl _ _ _ 65 rfl 9 3 SK Tryd.underlying65 RM w.heap.size 3 (wD 3) (wD 4) rfl m3 (by unfold maxLen; omega) _ _ (.string wLayer) rfl rfl k3 _ _ v1 d3 ?_; intro w4 m4 g4)
    | (refine wpList_insert_own _ rfl _ _ _ 65 rfl 9 3 SK Tryd.underlying65 RM w.heap.size 4 (wD 4) (wD 5) rfl m4 (by unfold maxLen; omega) _ _ (.string wCore) rfl rfl k4 _ _ v0 d4 ?_; intro w5 m5 g5)
    | (refine wpList_insert_own _ rfl _ _ _ 65 rfl 9 3 SK Tryd.underlying65 RM w.heap.size 5 (wD 5) (wD 6) rfl m5 (by unfold maxLen; omega) _ _ (.string wLength) rfl rfl k5 _ _ v0 d5 ?_; intro w6 m6 g6)
    | (refine wpList_insert_own _ rfl _ _ _ 65 rfl 9 3 SK Tryd.underlying65 RM w.heap.size 6 (wD 6) (wD 7) rfl m6 (by unfold maxLen; omega) _ _ (.string wCount) rfl rfl k6 _ _ v2 d6 ?_; intro w7 m7 g7)
    | (refine wpList_insert_own _ rfl _ _ _ 65 rfl 9 3 SK Tryd.underlying65 RM w.heap.size 7 (wD 7) (wD 8) rfl m7 (by unfold maxLen; omega) _ _ (.string wAge) rfl rfl k7 _ _ v1 d7 ?_; intro w8 m8 g8)
    | (refine wpList_insert_own _ rfl _ _ _ 65 rfl 9 3 SK Tryd.underlying65 RM w.heap.size 8 (wD 8) (wD 9) rfl m8 (by unfold maxLen; omega) _ _ (.string wYear) rfl rfl k8 _ _ v1 d8 ?_; intro w9 m9 g9
       have B9 : Below w.heap.size w w9 := ((Below.refl w.heap.size w).alloc (Nat.le_refl _) _).grown (((((((((g1.trans g2).trans g3).trans g4).trans g5).trans g6).trans g7).trans g8).trans g9)) (by simp) (fun j hj => by injection hj with hj; omega)
       have e0 := (B9.cell (p := ⟨k, 0, none⟩) hk).trans c0
       clear g1 g2 g3 g4 g5 g6 g7 g8 g9 m1 m2 m3 m4 m5 m6 m7 m8)
    | (at_lookup; refine wpList_lookup_own_ok_int _ rfl _ _ 65 rfl 9 3 .i64 SK Tryd.underlying65 Tryd.underlying3 (zeroInt _) w.heap.size 9 (wD 9) rfl m9 _ (.string wLength) rfl k5 ?_
       intro c hat hwc
       obtain rfl : c = 0 := by have h2 := hwh.2; rw [← wD_all, hat] at h2; injection h2 with h2; injection h2
       rw [show has (wD 9) (.string wLength) = true from hwh.1]
       clear hat hwc m9 m0 hmm k0 k1 k2 k3 k4 k5 k6 k7 k8 d0 d1 d2 d3 d4 d5 d6 d7 d8 hwh v0 v1 v2))
  go_loopw [9, 11, 37] (fun _ _ i wr => i = .int .i64 0 ∧ Below w.heap.size w wr) (fun _ _ _ _ => 0)
  case atStart => exact ⟨rfl, B9⟩
  case round =>
    obtain ⟨rfl, hb⟩ := hrel
    have e0' := (hb.cell (p := ⟨k, 0, none⟩) hk).trans c0
    have q0 : ((tx wLength).toList == [112, 105, 101, 99, 101]) = false := tne (a := wLength) (b := wPiece) (by decide)
    have q1 : ((tx wLength).toList == [99, 117, 116]) = false := tne (a := wLength) (b := wCut) (by decide)
    have q2 : ((tx wLength).toList == [106, 111, 105, 110]) = false := tne (a := wLength) (b := wJoin) (by decide)
    have q3 : ((tx wLength).toList == [108, 97, 121, 101, 114]) = false := tne (a := wLength) (b := wLayer) (by decide)
    have q4 : ((tx wLength).toList == [99, 111, 114, 101]) = false := tne (a := wLength) (b := wCore) (by decide)
    have q5 : ((tx wLength).toList == [108, 101, 110, 103, 116, 104]) = true := teq wLength
    obtain ⟨Ac, cc, x0, xA⟩ := (HS.out.below hb (Nat.le_refl _)).core
    have KT := implCoreLength_any Ac s.core.length cc s.core wr xA (by omega)
    rw [hu] at KT
    have KT := Lib.hid KT
    have I1 := Lib.hid (fun W hW => itoaB_any u hu' W hW)
    have HTr := Lib.hid (HT.out.below hb (Nat.le_refl _))
    have HB := Lib.hid hb
    clear xA HS HT hb hu
    go_wp2_with (first
      | (go_at_call 13; refine KT.out.mono ?_; rintro e w2 ⟨rfl, b2⟩; have B2 := HB.out.trans (b2.mono HB.out.size); have H2 := Lib.hid (HTr.out.below b2 (Nat.le_refl _)))
      | (go_at_call 24; refine (I1.out _ H2.out).mono ?_; rintro e w3 ⟨rfl, b3⟩; have B3 := B2.trans (b3.mono B2.size)))
    go_ret2
    exact ⟨rfl, B3⟩
end Go.Proofs.YtefadlbfkhndfaaDoor
