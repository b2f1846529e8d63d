/-
  What the texts below prove: contracts and plain laws, each with its conditions.
-/
import Derived.Test.YtefadlbfkhndfaaGreatDoorGD
import Derived.Test.YtefadlbfkhndfaaGreatDoorGC
import Derived.StringKeys
import Derived.Deep.RegionHeld3
import Derived.BigQuiet
import Derived.Test.YtefadlbfkhndfaaGreatDoorGF
import Derived.Maps.AppendAt

/-
  Contract: the program's (*script).execute at a line "year N".
-/
namespace Go.Proofs.YtefadlbfkhndfaaGreatDoor
open Go.RowKit Go.Maps Go.WideMaps
set_option linter.unusedSimpArgs false
set_option linter.unusedVariables false

theorem Calls.underK2 {P : Program} {B : Nat} {w0 : World} {f : FuncId} {args : Array Value} {v : Value} {u : Later B w0} (K : ∀ W, Below B w0 W → Calls P f args W fun e w' => e = .returned v ∧ Below B w0 w') :
    Calls P f args u.1 fun e w'' => e = .returned v ∧ ∃ u' : Later B w0, w'' = u'.1 :=
  (K u.1 u.2).mono fun _ w' ⟨he, hb⟩ => ⟨he, ⟨w', hb⟩, rfl⟩
theorem ret_sb {a b : ByteArray} {c d : Bool} (h : a = b) (h2 : c = d) : Ending.returned (.tuple #[.string a, .bool c]) = .returned (.tuple #[.string b, .bool d]) := by rw [h, h2]
theorem infoInt8 : (Tryz.prog.info? 3).map (fun i => (i.zero, i.size, i.bytes)) = some (some (.int .i64 0), 1, 8) := by kernel_rfl
theorem zeroInt (w : World) : (zeroValue 3).run Tryz.prog w = .ok (.int .i64 0) w := by kernel_rfl
noncomputable def RM : Value → Option (DataW Unit × List MemPlace) := plainElem Tryz.prog 3
theorem SK : Keyed Tryz.prog 9 := string_keyed Tryz.underlying9

theorem tne {a b : List UInt8} (h : a ≠ b) : ((tx a).toList == b) = false := by unfold tx; rw [ByteArray.toList_mk]; simpa using h
theorem teq (a : List UInt8) : ((tx a).toList == a) = true := by unfold tx; rw [ByteArray.toList_mk]; simp
set_option maxRecDepth 100000 in
set_option maxHeartbeats 8000000 in
theorem exec_year_any (g u k : Nat) (hu : u ≤ 999999) (w : World) (hT : Tab w) (hk : k < w.heap.size)
    (c0 : w.cell? ⟨k, 0, none⟩ = some (.string (tx wYear))) (c1 : w.cell? ⟨k, 1, none⟩ = some (.string (tx (Lib.decDigits u)))) :
    Calls Tryz.prog 45 #[.pointer (some ⟨g, 0, none⟩), .slice (some ⟨k, 0, none⟩) 2 2] w fun e w' =>
      e = .returned (.tuple #[.string (tx (yearT (ofY u))), .bool (ofB u)]) ∧ Below w.heap.size w w' := by
  have k0 : keyOf Tryz.prog 9 (.string (tx wPiece)) = some (.string wPiece) := by rw [keyOf_string_mk Tryz.underlying9 (by rw [tx_size]; decide)]; rfl
  have k1 : keyOf Tryz.prog 9 (.string (tx wCut)) = some (.string wCut) := by rw [keyOf_string_mk Tryz.underlying9 (by rw [tx_size]; decide)]; rfl
  have k2 : keyOf Tryz.prog 9 (.string (tx wJoin)) = some (.string wJoin) := by rw [keyOf_string_mk Tryz.underlying9 (by rw [tx_size]; decide)]; rfl
  have k3 : keyOf Tryz.prog 9 (.string (tx wLayer)) = some (.string wLayer) := by rw [keyOf_string_mk Tryz.underlying9 (by rw [tx_size]; decide)]; rfl
  have k4 : keyOf Tryz.prog 9 (.string (tx wCore)) = some (.string wCore) := by rw [keyOf_string_mk Tryz.underlying9 (by rw [tx_size]; decide)]; rfl
  have k5 : keyOf Tryz.prog 9 (.string (tx wLength)) = some (.string wLength) := by rw [keyOf_string_mk Tryz.underlying9 (by rw [tx_size]; decide)]; rfl
  have k6 : keyOf Tryz.prog 9 (.string (tx wCount)) = some (.string wCount) := by rw [keyOf_string_mk Tryz.underlying9 (by rw [tx_size]; decide)]; rfl
  have k7 : keyOf Tryz.prog 9 (.string (tx wAge)) = some (.string wAge) := by rw [keyOf_string_mk Tryz.underlying9 (by rw [tx_size]; decide)]; rfl
  have k8 : keyOf Tryz.prog 9 (.string (tx wYear)) = some (.string wYear) := by rw [keyOf_string_mk Tryz.underlying9 (by rw [tx_size]; decide)]; rfl
  have d0 := wD_step (i := 0) rfl
  have d1 := wD_step (i := 1) rfl
  have d2 := wD_step (i := 2) rfl
  have d3 := wD_step (i := 3) rfl
  have d4 := wD_step (i := 4) rfl
  have d5 := wD_step (i := 5) rfl
  have d6 := wD_step (i := 6) rfl
  have d7 := wD_step (i := 7) rfl
  have d8 := wD_step (i := 8) rfl
  have v0 : RM (.int .i64 0) = some (.lit (.int .i64 0), []) := plainElem_int Tryz.underlying3 rfl
  have v1 : RM (.int .i64 1) = some (.lit (.int .i64 1), []) := plainElem_int Tryz.underlying3 rfl
  have v2 : RM (.int .i64 2) = some (.lit (.int .i64 2), []) := plainElem_int Tryz.underlying3 rfl
  have m0 := World.ownsMap_made w Tryz.prog 9 RM
  have hmm := @run_makeMap Tryz.prog
  have hwh := want_has (x := wYear) (k := 1) rfl
  have HT := Lib.hid hT
  have SN := Lib.hid (scriptNumber_dig u hu)
  clear hT
  go_enter Tryz.func45, Tryz.ntmps45
  go_wp2_with (first
    | (refine wpList_insert_own _ rfl _ _ _ 95 rfl 9 3 SK Tryz.underlying95 RM w.heap.size 0 (wD 0) (wD 1) rfl m0 (by unfold maxLen; omega) _ _ (.string wPiece) rfl rfl k0 _ _ v2 d0 ?_; intro w1 m1 g1)
    | (refine wpList_insert_own _ rfl _ _ _ 95 rfl 9 3 SK Tryz.underlying95 RM w.heap.size 1 (wD 1) (wD 2) rfl m1 (by unfold maxLen; omega) _ _ (.string wCut) rfl rfl k1 _ _ v1 d1 ?_; intro w2 m2 g2)
    | (refine wpList_insert_own _ rfl _ _ _ 95 rfl 9 3 SK Tryz.underlying95 RM w.heap.size 2 (wD 2) (wD 3) rfl m2 (by unfold maxLen; omega) _ _ (.string wJoin) rfl rfl k2 _ _ v0 d2 ?_; intro w3 m3 g3)
    | (refine wpList_insert_own _ rfl _ _ _ 95 rfl 9 3 SK Tryz.underlying95 RM w.heap.size 3 (wD 3) (wD 4) rfl m3 (by unfold maxLen; omega) _ _ (.string wLayer) rfl rfl k3 _ _ v1 d3 ?_; intro w4 m4 g4)
    | (refine wpList_insert_own _ rfl _ _ _ 95 rfl 9 3 SK Tryz.underlying95 RM w.heap.size 4 (wD 4) (wD 5) rfl m4 (by unfold maxLen; omega) _ _ (.string wCore) rfl rfl k4 _ _ v0 d4 ?_; intro w5 m5 g5)
    | (refine wpList_insert_own _ rfl _ _ _ 95 rfl 9 3 SK Tryz.underlying95 RM w.heap.size 5 (wD 5) (wD 6) rfl m5 (by unfold maxLen; omega) _ _ (.string wLength) rfl rfl k5 _ _ v0 d5 ?_; intro w6 m6 g6)
    | (refine wpList_insert_own _ rfl _ _ _ 95 rfl 9 3 SK Tryz.underlying95 RM w.heap.size 6 (wD 6) (wD 7) rfl m6 (by unfold maxLen; omega) _ _ (.string wCount) rfl rfl k6 _ _ v2 d6 ?_; intro w7 m7 g7)
    | (refine wpList_insert_own _ rfl _ _ _ 95 rfl 9 3 SK Tryz.underlying95 RM w.heap.size 7 (wD 7) (wD 8) rfl m7 (by unfold maxLen; omega) _ _ (.string wAge) rfl rfl k7 _ _ v1 d7 ?_; intro w8 m8 g8)
    | (refine wpList_insert_own _ rfl _ _ _ 95 rfl 9 3 SK Tryz.underlying95 RM w.heap.size 8 (wD 8) (wD 9) rfl m8 (by unfold maxLen; omega) _ _ (.string wYear) rfl rfl k8 _ _ v1 d8 ?_; intro w9 m9 g9
       have B9 : Below w.heap.size w w9 := ((Below.refl w.heap.size w).alloc (Nat.le_refl _) _).grown (((((((((g1.trans g2).trans g3).trans g4).trans g5).trans g6).trans g7).trans g8).trans g9)) (by simp) (fun j hj => by injection hj with hj; omega)
       have e0 := (B9.cell (p := ⟨k, 0, none⟩) hk).trans c0
       have e1 := (B9.cell (p := ⟨k, 1, none⟩) hk).trans c1
       clear g1 g2 g3 g4 g5 g6 g7 g8 g9 m1 m2 m3 m4 m5 m6 m7 m8)
    | (at_lookup; refine wpList_lookup_own_ok_int _ rfl _ _ 95 rfl 9 3 .i64 SK Tryz.underlying95 Tryz.underlying3 (zeroInt _) w.heap.size 9 (wD 9) rfl m9 _ (.string wYear) rfl k8 ?_
       intro c hat hwc
       obtain rfl : c = 1 := by have h2 := hwh.2; rw [← wD_all, hat] at h2; injection h2 with h2; injection h2
       rw [show has (wD 9) (.string wYear) = true from hwh.1]
       clear hat hwc m9 m0 hmm k0 k1 k2 k3 k4 k5 k6 k7 k8 d0 d1 d2 d3 d4 d5 d6 d7 d8 hwh v0 v1 v2))
  go_loopw [9, 11, 37] (fun s _ i wr => ∃ j : Nat, j ≤ 1 ∧ i = .int .i64 j ∧ Own II 1 wr w.heap.size 3 s j ([(u : Int)].take j) ∧ Below w.heap.size w wr) (fun _ _ i _ => 1 - (intOf i).toNat)
  case atStart => exact ⟨0, by omega, rfl, Own.nil_ _ _ _ _ _, B9⟩
  case round =>
    obtain ⟨j, hj, rfl, hw, hb⟩ := hrel
    have e1' := (hb.cell (p := ⟨k, 1, none⟩) hk).trans c1
    have e0' := (hb.cell (p := ⟨k, 0, none⟩) hk).trans c0
    clear e0 e1 c0 c1 B9
    rcases (show j = 0 ∨ j = 1 by omega) with rfl | rfl
    · obtain ⟨A0, c0, rfl, _, _⟩ := hw.form
      have hsz := hb.size
      obtain ⟨i0, hi, hz0, hz1, hz2⟩ := info_parts infoInt8
      go_wp2_with (first
        | (go_at_call 76; refine (SN.out _).mono ?_; rintro e w2 ⟨rfl, b2⟩
           have hw2 := hw.below b2 (Nat.le_refl _)
           have hb2 := hb.trans (b2.mono hsz)
           have hsz2 := hb2.size
           have K1 := cell_new1 w2 (.int .i64 (u : Int)) 3
           have K2 := one_II (u : Int)
           have K3 : 0 + 1 ≤ maxLen := by unfold maxLen; omega
           have K4 : (0 + 1) * 8 ≤ 140737488355328 := by omega
           have K5 : w.heap.size ≤ (w2.alloc (.cells #[.int .i64 (u : Int)] 3)).heap.size := by simp; omega)
        | (at_builtin; (refine wpList_append_own _ rfl _ _ 81 rfl w.heap.size 3 i0 (.int .i64 0) 1 8 Tryz.underlying81 hi hz0 hz1 hz2 rfl (by decide) _ _ _ rfl (hw2.2.alloc _) ⟨w2.heap.size, 0, none⟩ 1 1 [.int .i64 (u : Int)] rfl rfl K1 K2 K3 K4 K5 ?_)))
      intro v' w4 hown' hg4 _
      have hw4 : Own II 1 w4 w.heap.size 3 v' 1 ([(u : Int)].take 1) := Own.snoc (f := II) (l := []) (x := (u : Int)) rfl hown'
      have hb4 : Below w.heap.size w w4 := (hb2.alloc hsz2 (.cells #[.int .i64 (u : Int)] 3)).grown hg4 (by simp; omega) (fun j hj => (hw2.2.lt j hj).1)
      clear hw hown' hg4 hb hb2 hw2 K1 K2 K3 K4 K5 b2
      go_wp2
      go_roundw
      case rel => exact ⟨1, by omega, by go_num, hw4, hb4⟩
      case measure => simp [intOf]
    · obtain ⟨G, cG, rfl, hG1, hG2, hG3⟩ := hw.head (by omega)
      have n0 := hw.intAt (k := 0) (x := (u : Int)) rfl
      have q0 : ((tx wYear).toList == [112, 105, 101, 99, 101]) = false := tne (a := wYear) (b := wPiece) (by decide)
      have q1 : ((tx wYear).toList == [99, 117, 116]) = false := tne (a := wYear) (b := wCut) (by decide)
      have q2 : ((tx wYear).toList == [106, 111, 105, 110]) = false := tne (a := wYear) (b := wJoin) (by decide)
      have q3 : ((tx wYear).toList == [108, 97, 121, 101, 114]) = false := tne (a := wYear) (b := wLayer) (by decide)
      have q4 : ((tx wYear).toList == [99, 111, 114, 101]) = false := tne (a := wYear) (b := wCore) (by decide)
      have q5 : ((tx wYear).toList == [108, 101, 110, 103, 116, 104]) = false := tne (a := wYear) (b := wLength) (by decide)
      have q6 : ((tx wYear).toList == [99, 111, 117, 110, 116]) = false := tne (a := wYear) (b := wCount) (by decide)
      have q7 : ((tx wYear).toList == [97, 103, 101]) = false := tne (a := wYear) (b := wAge) (by decide)
      have Y1 := Lib.hid (fun W => implYearOf_any (u : Int) ⟨by omega, by omega⟩ W)
      have Y2 := Lib.hid (fun W hT => implYearText_any (ofY u) (by unfold ofY; split <;> omega) W hT)
      have HB := Lib.hid hb
      have HTr := Lib.hid (HT.out.below hb (Nat.le_refl _))
      have p0 : (0 : Int) ≤ (u : Int) := by omega
      obtain ⟨T, hTT⟩ : ∃ T, T = tx (yearT (ofY u)) := ⟨_, rfl⟩
      rw [← hTT] at Y2
      have KK : Hid (∀ W, Below wr.heap.size wr W → Calls Tryz.prog 82 #[.int .i64 (ofY (u : Int))] W fun e w' => e = .returned (.string T) ∧ Below wr.heap.size wr w') := Lib.hid (fun W hW =>
        (Y2.out W (HTr.out.below hW (Nat.le_refl _))).mono fun e w' ⟨he, h2⟩ => ⟨he, hW.trans (h2.mono hW.size)⟩)
      have HTT := Lib.hid hTT
      have D1 := Later.cell (w0 := wr) (B := wr.heap.size) (by exact hG2) n0
      have HO := Lib.hid (rfl : ofB (u : Int) = ofB (u : Int))
      clear hw hb HT SN hTT e1' hj Y2 HTr
      generalize ofY (u : Int) = Y at Y1 KK
      have f0 : decide ((0 : Int) ≤ (u : Int)) = true := decide_eq_true p0
      generalize hO : ofB (u : Int) = B at Y1
      cases B with
      | false =>
        clear HO
        have HO := Lib.hid hO
        clear hO
        go_wp2_with (go_at_call 81; refine (Y1.out _).mono ?_; rintro e w' ⟨rfl, rfl⟩)
        refine wp_region_under (B := wr.heap.size) (w0 := wr) (by kernel_rfl) (by kernel_rfl) (Below.refl _ _) ?_
        repeat (go_big_quiet_step ((go_at_call 82; with_reducible exact Calls.underK2 KK.out)))
        refine wpQuiet_nil ?_
        rintro w2 ⟨q, hq⟩
        have hb2 := HB.out.trans ((show Below wr.heap.size wr w2 by rw [hq]; exact q.2).mono HB.out.size)
        clear hq q D1
        go_wp2
        go_ret2
        exact ⟨ret_sb HTT.out HO.out.symm, hb2⟩
      | true =>
        clear HO
        have HO := Lib.hid hO
        clear hO
        go_wp2_with (go_at_call 81; refine (Y1.out _).mono ?_; rintro e w' ⟨rfl, rfl⟩)
        refine wp_region_under (B := wr.heap.size) (w0 := wr) (by kernel_rfl) (by kernel_rfl) (Below.refl _ _) ?_
        repeat (go_big_quiet_step ((go_at_call 82; with_reducible exact Calls.underK2 KK.out)))
        refine wpQuiet_nil ?_
        rintro w2 ⟨q, hq⟩
        have hb2 := HB.out.trans ((show Below wr.heap.size wr w2 by rw [hq]; exact q.2).mono HB.out.size)
        clear hq q D1
        go_wp2
        go_ret2
        exact ⟨ret_sb HTT.out HO.out.symm, hb2⟩
end Go.Proofs.YtefadlbfkhndfaaGreatDoor

/-
  Contracts: the program's (*script).execute at the lines "core" and "length".
-/
namespace Go.Proofs.YtefadlbfkhndfaaGreatDoor
open Go.RowKit Go.Maps Go.WideMaps
set_option linter.unusedSimpArgs false
set_option linter.unusedVariables false

theorem Scr.core {w : World} {g : Nat} {s : St} (h : Scr w g s) : ∃ Ac cc, w.cell? ⟨g, 0, none⟩ = some (.slice Ac s.core.length cc) ∧ Arr PP 2 w w.heap.size Ac s.core.length s.core := by
  obtain ⟨Ac, nc, cc, Al, nl, cl, h1, h2, h3⟩ := h
  have e := h2.1
  subst e
  exact ⟨Ac, cc, (Lib.cell_of_heap h1 0).trans rfl, h2.arr PP_length⟩

set_option maxRecDepth 100000 in
set_option maxHeartbeats 8000000 in
theorem exec_core_any (g k : Nat) (s : St) (w : World) (hs : Scr w g s) (hl : s.core.length ≤ 1000) (hT : Tab w) (hk : k < w.heap.size) (c0 : w.cell? ⟨k, 0, none⟩ = some (.string (tx wCore))) :
    Calls Tryz.prog 45 #[.pointer (some ⟨g, 0, none⟩), .slice (some ⟨k, 0, none⟩) 1 1] w fun e w' =>
      e = .returned (.tuple #[.string (tx (coreT s.core)), .bool true]) ∧ Below w.heap.size w w' := by
  have k0 : keyOf Tryz.prog 9 (.string (tx wPiece)) = some (.string wPiece) := by rw [keyOf_string_mk Tryz.underlying9 (by rw [tx_size]; decide)]; rfl
  have k1 : keyOf Tryz.prog 9 (.string (tx wCut)) = some (.string wCut) := by rw [keyOf_string_mk Tryz.underlying9 (by rw [tx_size]; decide)]; rfl
  have k2 : keyOf Tryz.prog 9 (.string (tx wJoin)) = some (.string wJoin) := by rw [keyOf_string_mk Tryz.underlying9 (by rw [tx_size]; decide)]; rfl
  have k3 : keyOf Tryz.prog 9 (.string (tx wLayer)) = some (.string wLayer) := by rw [keyOf_string_mk Tryz.underlying9 (by rw [tx_size]; decide)]; rfl
  have k4 : keyOf Tryz.prog 9 (.string (tx wCore)) = some (.string wCore) := by rw [keyOf_string_mk Tryz.underlying9 (by rw [tx_size]; decide)]; rfl
  have k5 : keyOf Tryz.prog 9 (.string (tx wLength)) = some (.string wLength) := by rw [keyOf_string_mk Tryz.underlying9 (by rw [tx_size]; decide)]; rfl
  have k6 : keyOf Tryz.prog 9 (.string (tx wCount)) = some (.string wCount) := by rw [keyOf_string_mk Tryz.underlying9 (by rw [tx_size]; decide)]; rfl
  have k7 : keyOf Tryz.prog 9 (.string (tx wAge)) = some (.string wAge) := by rw [keyOf_string_mk Tryz.underlying9 (by rw [tx_size]; decide)]; rfl
  have k8 : keyOf Tryz.prog 9 (.string (tx wYear)) = some (.string wYear) := by rw [keyOf_string_mk Tryz.underlying9 (by rw [tx_size]; decide)]; rfl
  have d0 := wD_step (i := 0) rfl
  have d1 := wD_step (i := 1) rfl
  have d2 := wD_step (i := 2) rfl
  have d3 := wD_step (i := 3) rfl
  have d4 := wD_step (i := 4) rfl
  have d5 := wD_step (i := 5) rfl
  have d6 := wD_step (i := 6) rfl
  have d7 := wD_step (i := 7) rfl
  have d8 := wD_step (i := 8) rfl
  have v0 : RM (.int .i64 0) = some (.lit (.int .i64 0), []) := plainElem_int Tryz.underlying3 rfl
  have v1 : RM (.int .i64 1) = some (.lit (.int .i64 1), []) := plainElem_int Tryz.underlying3 rfl
  have v2 : RM (.int .i64 2) = some (.lit (.int .i64 2), []) := plainElem_int Tryz.underlying3 rfl
  have m0 := World.ownsMap_made w Tryz.prog 9 RM
  have hmm := @run_makeMap Tryz.prog
  have hwh := want_has (x := wCore) (k := 0) rfl
  have HT := Lib.hid hT
  have HS := Lib.hid hs
  clear hT hs
  go_enter Tryz.func45, Tryz.ntmps45
  go_wp2_with (first
    | (refine wpList_insert_own _ rfl _ _ _ 95 rfl 9 3 SK Tryz.underlying95 RM w.heap.size 0 (wD 0) (wD 1) rfl m0 (by unfold maxLen; omega) _ _ (.string wPiece) rfl rfl k0 _ _ v2 d0 ?_; intro w1 m1 g1)
    | (refine wpList_insert_own _ rfl _ _ _ 95 rfl 9 3 SK Tryz.underlying95 RM w.heap.size 1 (wD 1) (wD 2) rfl m1 (by unfold maxLen; omega) _ _ (.string wCut) rfl rfl k1 _ _ v1 d1 ?_; intro w2 m2 g2)
    | (refine wpList_insert_own _ rfl _ _ _ 95 rfl 9 3 SK Tryz.underlying95 RM w.heap.size 2 (wD 2) (wD 3) rfl m2 (by unfold maxLen; omega) _ _ (.string wJoin) rfl rfl k2 _ _ v0 d2 ?_; intro w3 m3 g3)
    | (refine wpList_insert_own _ rfl _ _ _ 95 rfl 9 3 SK Tryz.underlying95 RM w.heap.size 3 (wD 3) (wD 4) rfl m3 (by unfold maxLen; omega) _ _ (.string wLayer) rfl rfl k3 _ _ v1 d3 ?_; intro w4 m4 g4)
    | (refine wpList_insert_own _ rfl _ _ _ 95 rfl 9 3 SK Tryz.underlying95 RM w.heap.size 4 (wD 4) (wD 5) rfl m4 (by unfold maxLen; omega) _ _ (.string wCore) rfl rfl k4 _ _ v0 d4 ?_; intro w5 m5 g5)
    | (refine wpList_insert_own _ rfl _ _ _ 95 rfl 9 3 SK Tryz.underlying95 RM w.heap.size 5 (wD 5) (wD 6) rfl m5 (by unfold maxLen; omega) _ _ (.string wLength) rfl rfl k5 _ _ v0 d5 ?_; intro w6 m6 g6)
    | (refine wpList_insert_own _ rfl _ _ _ 95 rfl 9 3 SK Tryz.underlying95 RM w.heap.size 6 (wD 6) (wD 7) rfl m6 (by unfold maxLen; omega) _ _ (.string wCount) rfl rfl k6 _ _ v2 d6 ?_; intro w7 m7 g7)
    | (refine wpList_insert_own _ rfl _ _ _ 95 rfl 9 3 SK Tryz.underlying95 RM w.heap.size 7 (wD 7) (wD 8) rfl m7 (by unfold maxLen; omega) _ _ (.string wAge) rfl rfl k7 _ _ v1 d7 ?_; intro w8 m8 g8)
    | (refine wpList_insert_own _ rfl _ _ _ 95 rfl 9 3 SK Tryz.underlying95 RM w.heap.size 8 (wD 8) (wD 9) rfl m8 (by unfold maxLen; omega) _ _ (.string wYear) rfl rfl k8 _ _ v1 d8 ?_; intro w9 m9 g9
       have B9 : Below w.heap.size w w9 := ((Below.refl w.heap.size w).alloc (Nat.le_refl _) _).grown (((((((((g1.trans g2).trans g3).trans g4).trans g5).trans g6).trans g7).trans g8).trans g9)) (by simp) (fun j hj => by injection hj with hj; omega)
       have e0 := (B9.cell (p := ⟨k, 0, none⟩) hk).trans c0
       clear g1 g2 g3 g4 g5 g6 g7 g8 g9 m1 m2 m3 m4 m5 m6 m7 m8)
    | (at_lookup; refine wpList_lookup_own_ok_int _ rfl _ _ 95 rfl 9 3 .i64 SK Tryz.underlying95 Tryz.underlying3 (zeroInt _) w.heap.size 9 (wD 9) rfl m9 _ (.string wCore) rfl k4 ?_
       intro c hat hwc
       obtain rfl : c = 0 := by have h2 := hwh.2; rw [← wD_all, hat] at h2; injection h2 with h2; injection h2
       rw [show has (wD 9) (.string wCore) = true from hwh.1]
       clear hat hwc m9 m0 hmm k0 k1 k2 k3 k4 k5 k6 k7 k8 d0 d1 d2 d3 d4 d5 d6 d7 d8 hwh v0 v1 v2))
  go_loopw [9, 11, 37] (fun _ _ i wr => i = .int .i64 0 ∧ Below w.heap.size w wr) (fun _ _ _ _ => 0)
  case atStart => exact ⟨rfl, B9⟩
  case round =>
    obtain ⟨rfl, hb⟩ := hrel
    have e0' := (hb.cell (p := ⟨k, 0, none⟩) hk).trans c0
    have q0 : ((tx wCore).toList == [112, 105, 101, 99, 101]) = false := tne (a := wCore) (b := wPiece) (by decide)
    have q1 : ((tx wCore).toList == [99, 117, 116]) = false := tne (a := wCore) (b := wCut) (by decide)
    have q2 : ((tx wCore).toList == [106, 111, 105, 110]) = false := tne (a := wCore) (b := wJoin) (by decide)
    have q3 : ((tx wCore).toList == [108, 97, 121, 101, 114]) = false := tne (a := wCore) (b := wLayer) (by decide)
    have q4 : ((tx wCore).toList == [99, 111, 114, 101]) = true := teq wCore
    obtain ⟨Ac, cc, x0, xA⟩ := (HS.out.below hb (Nat.le_refl _)).core
    have KT := Lib.hid (implCoreText_any Ac s.core.length cc s.core wr xA (by omega) (HT.out.below hb (Nat.le_refl _)))
    obtain ⟨T, hTT⟩ : ∃ T, T = tx (coreT s.core) := ⟨_, rfl⟩
    rw [← hTT] at KT
    have HTT := Lib.hid hTT
    have HB := Lib.hid hb
    clear hTT xA HS HT hb
    go_wp2_with (go_at_call 37; refine KT.out.mono ?_; rintro e w2 ⟨rfl, b2⟩)
    go_ret2
    exact ⟨ret_sb HTT.out rfl, HB.out.trans (b2.mono HB.out.size)⟩

set_option maxRecDepth 100000 in
set_option maxHeartbeats 8000000 in
theorem exec_length_any (g k u : Nat) (s : St) (w : World) (hs : Scr w g s) (hl : s.core.length ≤ 1000) (hu : coreLen s.core = (u : Int)) (hu' : u ≤ 10000000) (hT : Tab w) (hk : k < w.heap.size) (c0 : w.cell? ⟨k, 0, none⟩ = some (.string (tx wLength))) :
    Calls Tryz.prog 45 #[.pointer (some ⟨g, 0, none⟩), .slice (some ⟨k, 0, none⟩) 1 1] w fun e w' =>
      e = .returned (.tuple #[.string (tx (dec u)), .bool true]) ∧ Below w.heap.size w w' := by
  have k0 : keyOf Tryz.prog 9 (.string (tx wPiece)) = some (.string wPiece) := by rw [keyOf_string_mk Tryz.underlying9 (by rw [tx_size]; decide)]; rfl
  have k1 : keyOf Tryz.prog 9 (.string (tx wCut)) = some (.string wCut) := by rw [keyOf_string_mk Tryz.underlying9 (by rw [tx_size]; decide)]; rfl
  have k2 : keyOf Tryz.prog 9 (.string (tx wJoin)) = some (.string wJoin) := by rw [keyOf_string_mk Tryz.underlying9 (by rw [tx_size]; decide)]; rfl
  have k3 : keyOf Tryz.prog 9 (.string (tx wLayer)) = some (.string wLayer) := by rw [keyOf_string_mk Tryz.underlying9 (by rw [tx_size]; decide)]; rfl
  have k4 : keyOf Tryz.prog 9 (.string (tx wCore)) = some (.string wCore) := by rw [keyOf_string_mk Tryz.underlying9 (by rw [tx_size]; decide)]; rfl
  have k5 : keyOf Tryz.prog 9 (.string (tx wLength)) = some (.string wLength) := by rw [keyOf_string_mk Tryz.underlying9 (by rw [tx_size]; decide)]; rfl
  have k6 : keyOf Tryz.prog 9 (.string (tx wCount)) = some (.string wCount) := by rw [keyOf_string_mk Tryz.underlying9 (by rw [tx_size]; decide)]; rfl
  have k7 : keyOf Tryz.prog 9 (.string (tx wAge)) = some (.string wAge) := by rw [keyOf_string_mk Tryz.underlying9 (by rw [tx_size]; decide)]; rfl
  have k8 : keyOf Tryz.prog 9 (.string (tx wYear)) = some (.string wYear) := by rw [keyOf_string_mk Tryz.underlying9 (by rw [tx_size]; decide)]; rfl
  have d0 := wD_step (i := 0) rfl
  have d1 := wD_step (i := 1) rfl
  have d2 := wD_step (i := 2) rfl
  have d3 := wD_step (i := 3) rfl
  have d4 := wD_step (i := 4) rfl
  have d5 := wD_step (i := 5) rfl
  have d6 := wD_step (i := 6) rfl
  have d7 := wD_step (i := 7) rfl
  have d8 := wD_step (i := 8) rfl
  have v0 : RM (.int .i64 0) = some (.lit (.int .i64 0), []) := plainElem_int Tryz.underlying3 rfl
  have v1 : RM (.int .i64 1) = some (.lit (.int .i64 1), []) := plainElem_int Tryz.underlying3 rfl
  have v2 : RM (.int .i64 2) = some (.lit (.int .i64 2), []) := plainElem_int Tryz.underlying3 rfl
  have m0 := World.ownsMap_made w Tryz.prog 9 RM
  have hmm := @run_makeMap Tryz.prog
  have hwh := want_has (x := wLength) (k := 0) rfl
  have HT := Lib.hid hT
  have HS := Lib.hid hs
  clear hT hs
  go_enter Tryz.func45, Tryz.ntmps45
  go_wp2_with (first
    | (refine wpList_insert_own _ rfl _ _ _ 95 rfl 9 3 SK Tryz.underlying95 RM w.heap.size 0 (wD 0) (wD 1) rfl m0 (by unfold maxLen; omega) _ _ (.string wPiece) rfl rfl k0 _ _ v2 d0 ?_; intro w1 m1 g1)
    | (refine wpList_insert_own _ rfl _ _ _ 95 rfl 9 3 SK Tryz.underlying95 RM w.heap.size 1 (wD 1) (wD 2) rfl m1 (by unfold maxLen; omega) _ _ (.string wCut) rfl rfl k1 _ _ v1 d1 ?_; intro w2 m2 g2)
    | (refine wpList_insert_own _ rfl _ _ _ 95 rfl 9 3 SK Tryz.underlying95 RM w.heap.size 2 (wD 2) (wD 3) rfl m2 (by unfold maxLen; omega) _ _ (.string wJoin) rfl rfl k2 _ _ v0 d2 ?_; intro w3 m3 g3)
    | (refine wpList_insert_own _ rfl _ _ _ 95 rfl 9 3 SK Tryz.underlying95 RM w.heap.size 3 (wD 3) (wD 4) rfl m3 (by unfold maxLen; omega) _ _ (.string wLayer) rfl rfl k3 _ _ v1 d3 ?_; intro w4 m4 g4)
    | (refine wpList_insert_own _ rfl _ _ _ 95 rfl 9 3 SK Tryz.underlying95 RM w.heap.size 4 (wD 4) (wD 5) rfl m4 (by unfold maxLen; omega) _ _ (.string wCore) rfl rfl k4 _ _ v0 d4 ?_; intro w5 m5 g5)
    | (refine wpList_insert_own _ rfl _ _ _ 95 rfl 9 3 SK Tryz.underlying95 RM w.heap.size 5 (wD 5) (wD 6) rfl m5 (by unfold maxLen; omega) _ _ (.string wLength) rfl rfl k5 _ _ v0 d5 ?_; intro w6 m6 g6)
    | (refine wpList_insert_own _ rfl _ _ _ 95 rfl 9 3 SK Tryz.underlying95 RM w.heap.size 6 (wD 6) (wD 7) rfl m6 (by unfold maxLen; omega) _ _ (.string wCount) rfl rfl k6 _ _ v2 d6 ?_; intro w7 m7 g7)
    | (refine wpList_insert_own _ rfl _ _ _ 95 rfl 9 3 SK Tryz.underlying95 RM w.heap.size 7 (wD 7) (wD 8) rfl m7 (by unfold maxLen; omega) _ _ (.string wAge) rfl rfl k7 _ _ v1 d7 ?_; intro w8 m8 g8)
    | (refine wpList_insert_own _ rfl _ _ _ 95 rfl 9 3 SK Tryz.underlying95 RM w.heap.size 8 (wD 8) (wD 9) rfl m8 (by unfold maxLen; omega) _ _ (.string wYear) rfl rfl k8 _ _ v1 d8 ?_; intro w9 m9 g9
       have B9 : Below w.heap.size w w9 := ((Below.refl w.heap.size w).alloc (Nat.le_refl _) _).grown (((((((((g1.trans g2).trans g3).trans g4).trans g5).trans g6).trans g7).trans g8).trans g9)) (by simp) (fun j hj => by injection hj with hj; omega)
       have e0 := (B9.cell (p := ⟨k, 0, none⟩) hk).trans c0
       clear g1 g2 g3 g4 g5 g6 g7 g8 g9 m1 m2 m3 m4 m5 m6 m7 m8)
    | (at_lookup; refine wpList_lookup_own_ok_int _ rfl _ _ 95 rfl 9 3 .i64 SK Tryz.underlying95 Tryz.underlying3 (zeroInt _) w.heap.size 9 (wD 9) rfl m9 _ (.string wLength) rfl k5 ?_
       intro c hat hwc
       obtain rfl : c = 0 := by have h2 := hwh.2; rw [← wD_all, hat] at h2; injection h2 with h2; injection h2
       rw [show has (wD 9) (.string wLength) = true from hwh.1]
       clear hat hwc m9 m0 hmm k0 k1 k2 k3 k4 k5 k6 k7 k8 d0 d1 d2 d3 d4 d5 d6 d7 d8 hwh v0 v1 v2))
  go_loopw [9, 11, 37] (fun _ _ i wr => i = .int .i64 0 ∧ Below w.heap.size w wr) (fun _ _ _ _ => 0)
  case atStart => exact ⟨rfl, B9⟩
  case round =>
    obtain ⟨rfl, hb⟩ := hrel
    have e0' := (hb.cell (p := ⟨k, 0, none⟩) hk).trans c0
    have q0 : ((tx wLength).toList == [112, 105, 101, 99, 101]) = false := tne (a := wLength) (b := wPiece) (by decide)
    have q1 : ((tx wLength).toList == [99, 117, 116]) = false := tne (a := wLength) (b := wCut) (by decide)
    have q2 : ((tx wLength).toList == [106, 111, 105, 110]) = false := tne (a := wLength) (b := wJoin) (by decide)
    have q3 : ((tx wLength).toList == [108, 97, 121, 101, 114]) = false := tne (a := wLength) (b := wLayer) (by decide)
    have q4 : ((tx wLength).toList == [99, 111, 114, 101]) = false := tne (a := wLength) (b := wCore) (by decide)
    have q5 : ((tx wLength).toList == [108, 101, 110, 103, 116, 104]) = true := teq wLength
    obtain ⟨Ac, cc, x0, xA⟩ := (HS.out.below hb (Nat.le_refl _)).core
    have KT := implCoreLength_any Ac s.core.length cc s.core wr xA (by omega)
    rw [hu] at KT
    have KT := Lib.hid KT
    have I1 := Lib.hid (fun W hW => itoaB_any u hu' W hW)
    have HTr := Lib.hid (HT.out.below hb (Nat.le_refl _))
    have HB := Lib.hid hb
    clear xA HS HT hb hu
    go_wp2_with (first
      | (go_at_call 79; refine KT.out.mono ?_; rintro e w2 ⟨rfl, b2⟩; have B2 := HB.out.trans (b2.mono HB.out.size); have H2 := Lib.hid (HTr.out.below b2 (Nat.le_refl _)))
      | (go_at_call 47; refine (I1.out _ H2.out).mono ?_; rintro e w3 ⟨rfl, b3⟩; have B3 := B2.trans (b3.mono B2.size)))
    go_ret2
    exact ⟨rfl, B3⟩
end Go.Proofs.YtefadlbfkhndfaaGreatDoor

/-
  Contract: the program's (*script).execute at a line "piece A B".
-/
namespace Go.Proofs.YtefadlbfkhndfaaGreatDoor
open Go.RowKit Go.Maps Go.WideMaps
set_option linter.unusedSimpArgs false
set_option linter.unusedVariables false

theorem Own.litPPc (w : World) (base : Nat) (T : TypeId) (x y : Int) (hb : base ≤ w.heap.size) : Own PP 2 (w.alloc (.cells #[.int .i64 x, .int .i64 y] T)) base T (.slice (some ⟨w.heap.size, 0, none⟩) 1 1) 1 [(x, y)] :=
  ⟨rfl, World.ownsRow_lit w #[.int .i64 x, .int .i64 y] 1 hb (by unfold maxLen; omega) rfl⟩
theorem Scr.coreOwn {w : World} {g : Nat} {s : St} (h : Scr w g s) : ∃ Ac cc, w.cell? ⟨g, 0, none⟩ = some (.slice Ac s.core.length cc) ∧ Own PP 2 w (g + 1) 69 (.slice Ac s.core.length cc) s.core.length s.core := by
  obtain ⟨Ac, nc, cc, Al, nl, cl, h1, h2, h3⟩ := h
  have e := h2.1
  subst e
  exact ⟨Ac, cc, (Lib.cell_of_heap h1 0).trans rfl, h2⟩
theorem grows2 {w w' : World} (h : Below w.heap.size w w') (row : Option Nat) : w.grownBy w' row := ⟨h.os, h.tape, h.output, h.size, fun i hi _ => h.block i hi⟩

set_option maxRecDepth 100000 in
set_option maxHeartbeats 8000000 in
theorem exec_piece_yes (g k u v : Nat) (s : St) (hu : u ≤ 999999) (hv : v ≤ 999999) (w : World) (hs : Scr w g s) (hl : s.core.length ≤ 900) (hk : k < w.heap.size)
    (c0 : w.cell? ⟨k, 0, none⟩ = some (.string (tx wPiece))) (c1 : w.cell? ⟨k, 1, none⟩ = some (.string (tx (Lib.decDigits u)))) (c2 : w.cell? ⟨k, 2, none⟩ = some (.string (tx (Lib.decDigits v)))) (hC : coreB (s.core ++ [((u : Int), (v : Int))]) = true) :
    Calls Tryz.prog 45 #[.pointer (some ⟨g, 0, none⟩), .slice (some ⟨k, 0, none⟩) 3 3] w fun e w' =>
      e = .returned (.tuple #[.string (tx okT), .bool true]) ∧ Scr w' g { s with core := s.core ++ [((u : Int), (v : Int))] } ∧ w.grownBy w' (some g) := by
  have k0 : keyOf Tryz.prog 9 (.string (tx wPiece)) = some (.string wPiece) := by rw [keyOf_string_mk Tryz.underlying9 (by rw [tx_size]; decide)]; rfl
  have k1 : keyOf Tryz.prog 9 (.string (tx wCut)) = some (.string wCut) := by rw [keyOf_string_mk Tryz.underlying9 (by rw [tx_size]; decide)]; rfl
  have k2 : keyOf Tryz.prog 9 (.string (tx wJoin)) = some (.string wJoin) := by rw [keyOf_string_mk Tryz.underlying9 (by rw [tx_size]; decide)]; rfl
  have k3 : keyOf Tryz.prog 9 (.string (tx wLayer)) = some (.string wLayer) := by rw [keyOf_string_mk Tryz.underlying9 (by rw [tx_size]; decide)]; rfl
  have k4 : keyOf Tryz.prog 9 (.string (tx wCore)) = some (.string wCore) := by rw [keyOf_string_mk Tryz.underlying9 (by rw [tx_size]; decide)]; rfl
  have k5 : keyOf Tryz.prog 9 (.string (tx wLength)) = some (.string wLength) := by rw [keyOf_string_mk Tryz.underlying9 (by rw [tx_size]; decide)]; rfl
  have k6 : keyOf Tryz.prog 9 (.string (tx wCount)) = some (.string wCount) := by rw [keyOf_string_mk Tryz.underlying9 (by rw [tx_size]; decide)]; rfl
  have k7 : keyOf Tryz.prog 9 (.string (tx wAge)) = some (.string wAge) := by rw [keyOf_string_mk Tryz.underlying9 (by rw [tx_size]; decide)]; rfl
  have k8 : keyOf Tryz.prog 9 (.string (tx wYear)) = some (.string wYear) := by rw [keyOf_string_mk Tryz.underlying9 (by rw [tx_size]; decide)]; rfl
  have d0 := wD_step (i := 0) rfl
  have d1 := wD_step (i := 1) rfl
  have d2 := wD_step (i := 2) rfl
  have d3 := wD_step (i := 3) rfl
  have d4 := wD_step (i := 4) rfl
  have d5 := wD_step (i := 5) rfl
  have d6 := wD_step (i := 6) rfl
  have d7 := wD_step (i := 7) rfl
  have d8 := wD_step (i := 8) rfl
  have v0 : RM (.int .i64 0) = some (.lit (.int .i64 0), []) := plainElem_int Tryz.underlying3 rfl
  have v1 : RM (.int .i64 1) = some (.lit (.int .i64 1), []) := plainElem_int Tryz.underlying3 rfl
  have v2 : RM (.int .i64 2) = some (.lit (.int .i64 2), []) := plainElem_int Tryz.underlying3 rfl
  have m0 := World.ownsMap_made w Tryz.prog 9 RM
  have hmm := @run_makeMap Tryz.prog
  have hwh := want_has (x := wPiece) (k := 2) rfl
  have HS := Lib.hid hs
  have SN0 := Lib.hid (scriptNumber_dig u hu)
  have SN1 := Lib.hid (scriptNumber_dig v hv)
  have hgl := hs.lt
  have HC := Lib.hid hC
  clear hC
  clear hs
  go_enter Tryz.func45, Tryz.ntmps45
  go_wp2_with (first
    | (refine wpList_insert_own _ rfl _ _ _ 95 rfl 9 3 SK Tryz.underlying95 RM w.heap.size 0 (wD 0) (wD 1) rfl m0 (by unfold maxLen; omega) _ _ (.string wPiece) rfl rfl k0 _ _ v2 d0 ?_; intro w1 m1 g1)
    | (refine wpList_insert_own _ rfl _ _ _ 95 rfl 9 3 SK Tryz.underlying95 RM w.heap.size 1 (wD 1) (wD 2) rfl m1 (by unfold maxLen; omega) _ _ (.string wCut) rfl rfl k1 _ _ v1 d1 ?_; intro w2 m2 g2)
    | (refine wpList_insert_own _ rfl _ _ _ 95 rfl 9 3 SK Tryz.underlying95 RM w.heap.size 2 (wD 2) (wD 3) rfl m2 (by unfold maxLen; omega) _ _ (.string wJoin) rfl rfl k2 _ _ v0 d2 ?_; intro w3 m3 g3)
    | (refine wpList_insert_own _ rfl _ _ _ 95 rfl 9 3 SK Tryz.underlying95 RM w.heap.size 3 (wD 3) (wD 4) rfl m3 (by unfold maxLen; omega) _ _ (.string wLayer) rfl rfl k3 _ _ v1 d3 ?_; intro w4 m4 g4)
    | (refine wpList_insert_own _ rfl _ _ _ 95 rfl 9 3 SK Tryz.underlying95 RM w.heap.size 4 (wD 4) (wD 5) rfl m4 (by unfold maxLen; omega) _ _ (.string wCore) rfl rfl k4 _ _ v0 d4 ?_; intro w5 m5 g5)
    | (refine wpList_insert_own _ rfl _ _ _ 95 rfl 9 3 SK Tryz.underlying95 RM w.heap.size 5 (wD 5) (wD 6) rfl m5 (by unfold maxLen; omega) _ _ (.string wLength) rfl rfl k5 _ _ v0 d5 ?_; intro w6 m6 g6)
    | (refine wpList_insert_own _ rfl _ _ _ 95 rfl 9 3 SK Tryz.underlying95 RM w.heap.size 6 (wD 6) (wD 7) rfl m6 (by unfold maxLen; omega) _ _ (.string wCount) rfl rfl k6 _ _ v2 d6 ?_; intro w7 m7 g7)
    | (refine wpList_insert_own _ rfl _ _ _ 95 rfl 9 3 SK Tryz.underlying95 RM w.heap.size 7 (wD 7) (wD 8) rfl m7 (by unfold maxLen; omega) _ _ (.string wAge) rfl rfl k7 _ _ v1 d7 ?_; intro w8 m8 g8)
    | (refine wpList_insert_own _ rfl _ _ _ 95 rfl 9 3 SK Tryz.underlying95 RM w.heap.size 8 (wD 8) (wD 9) rfl m8 (by unfold maxLen; omega) _ _ (.string wYear) rfl rfl k8 _ _ v1 d8 ?_; intro w9 m9 g9
       have B9 : Below w.heap.size w w9 := ((Below.refl w.heap.size w).alloc (Nat.le_refl _) _).grown (((((((((g1.trans g2).trans g3).trans g4).trans g5).trans g6).trans g7).trans g8).trans g9)) (by simp) (fun j hj => by injection hj with hj; omega)
       have e0 := (B9.cell (p := ⟨k, 0, none⟩) hk).trans c0
       have e1 := (B9.cell (p := ⟨k, 1, none⟩) hk).trans c1
       have e2 := (B9.cell (p := ⟨k, 2, none⟩) hk).trans c2
       clear g1 g2 g3 g4 g5 g6 g7 g8 g9 m1 m2 m3 m4 m5 m6 m7 m8)
    | (at_lookup; refine wpList_lookup_own_ok_int _ rfl _ _ 95 rfl 9 3 .i64 SK Tryz.underlying95 Tryz.underlying3 (zeroInt _) w.heap.size 9 (wD 9) rfl m9 _ (.string wPiece) rfl k0 ?_
       intro c hat hwc
       obtain rfl : c = 2 := by have h2 := hwh.2; rw [← wD_all, hat] at h2; injection h2 with h2; injection h2
       rw [show has (wD 9) (.string wPiece) = true from hwh.1]
       clear hat hwc m9 m0 hmm k0 k1 k2 k3 k4 k5 k6 k7 k8 d0 d1 d2 d3 d4 d5 d6 d7 d8 hwh v0 v1 v2))
  go_loopw [9, 11, 37] (fun s _ i wr => ∃ j : Nat, j ≤ 2 ∧ i = .int .i64 j ∧ Own II 1 wr w.heap.size 3 s j ([(u : Int), (v : Int)].take j) ∧ Below w.heap.size w wr) (fun _ _ i _ => 2 - (intOf i).toNat)
  case atStart => exact ⟨0, by omega, rfl, Own.nil_ _ _ _ _ _, B9⟩
  case round =>
    obtain ⟨j, hj, rfl, hw, hb⟩ := hrel
    have e2' := (hb.cell (p := ⟨k, 2, none⟩) hk).trans c2
    have e1' := (hb.cell (p := ⟨k, 1, none⟩) hk).trans c1
    have e0' := (hb.cell (p := ⟨k, 0, none⟩) hk).trans c0
    clear e0 e1 e2 c0 c1 c2 B9
    rcases (show j = 0 ∨ j = 1 ∨ j = 2 by omega) with rfl | rfl | rfl
    · obtain ⟨A0, c0, rfl, _, _⟩ := hw.form
      have hsz := hb.size
      obtain ⟨i0, hi, hz0, hz1, hz2⟩ := info_parts infoInt8
      go_wp2_with (first
        | (go_at_call 76; refine (SN0.out _).mono ?_; rintro e w2 ⟨rfl, b2⟩
           have hw2 := hw.below b2 (Nat.le_refl _)
           have hb2 := hb.trans (b2.mono hsz)
           have hsz2 := hb2.size
           have K1 := cell_new1 w2 (.int .i64 (u : Int)) 3
           have K2 := one_II (u : Int)
           have K3 : 0 + 1 ≤ maxLen := by unfold maxLen; omega
           have K4 : (0 + 1) * 8 ≤ 140737488355328 := by omega
           have K5 : w.heap.size ≤ (w2.alloc (.cells #[.int .i64 (u : Int)] 3)).heap.size := by simp; omega)
        | (at_builtin; (refine wpList_append_own _ rfl _ _ 81 rfl w.heap.size 3 i0 (.int .i64 0) 1 8 Tryz.underlying81 hi hz0 hz1 hz2 rfl (by decide) _ _ _ rfl (hw2.2.alloc _) ⟨w2.heap.size, 0, none⟩ 1 1 [.int .i64 (u : Int)] rfl rfl K1 K2 K3 K4 K5 ?_)))
      intro v' w4 hown' hg4 _
      have hw4 : Own II 1 w4 w.heap.size 3 v' (0 + 1) ([(u : Int), (v : Int)].take (0 + 1)) := Own.snoc (f := II) (l := [(u : Int), (v : Int)].take 0) (x := (u : Int)) rfl hown'
      have hb4 : Below w.heap.size w w4 := (hb2.alloc hsz2 (.cells #[.int .i64 (u : Int)] 3)).grown hg4 (by simp; omega) (fun j hj => (hw2.2.lt j hj).1)
      clear hw hown' hg4 hb hb2 hw2 K1 K2 K3 K4 K5 b2
      go_wp2
      go_roundw
      case rel => exact ⟨0 + 1, by omega, by go_num, hw4, hb4⟩
      case measure => simp [intOf]
    · obtain ⟨A0, c0, rfl, _, _⟩ := hw.form
      have hsz := hb.size
      obtain ⟨i0, hi, hz0, hz1, hz2⟩ := info_parts infoInt8
      go_wp2_with (first
        | (go_at_call 76; refine (SN1.out _).mono ?_; rintro e w2 ⟨rfl, b2⟩
           have hw2 := hw.below b2 (Nat.le_refl _)
           have hb2 := hb.trans (b2.mono hsz)
           have hsz2 := hb2.size
           have K1 := cell_new1 w2 (.int .i64 (v : Int)) 3
           have K2 := one_II (v : Int)
           have K3 : 1 + 1 ≤ maxLen := by unfold maxLen; omega
           have K4 : (1 + 1) * 8 ≤ 140737488355328 := by omega
           have K5 : w.heap.size ≤ (w2.alloc (.cells #[.int .i64 (v : Int)] 3)).heap.size := by simp; omega)
        | (at_builtin; (refine wpList_append_own _ rfl _ _ 81 rfl w.heap.size 3 i0 (.int .i64 0) 1 8 Tryz.underlying81 hi hz0 hz1 hz2 rfl (by decide) _ _ _ rfl (hw2.2.alloc _) ⟨w2.heap.size, 0, none⟩ 1 1 [.int .i64 (v : Int)] rfl rfl K1 K2 K3 K4 K5 ?_)))
      intro v' w4 hown' hg4 _
      have hw4 : Own II 1 w4 w.heap.size 3 v' (1 + 1) ([(u : Int), (v : Int)].take (1 + 1)) := Own.snoc (f := II) (l := [(u : Int), (v : Int)].take 1) (x := (v : Int)) rfl hown'
      have hb4 : Below w.heap.size w w4 := (hb2.alloc hsz2 (.cells #[.int .i64 (v : Int)] 3)).grown hg4 (by simp; omega) (fun j hj => (hw2.2.lt j hj).1)
      clear hw hown' hg4 hb hb2 hw2 K1 K2 K3 K4 K5 b2
      go_wp2
      go_roundw
      case rel => exact ⟨1 + 1, by omega, by go_num, hw4, hb4⟩
      case measure => simp [intOf]
    · obtain ⟨G, cG, rfl, hG1, hG2, hG3⟩ := hw.head (by omega)
      have n0 := hw.intAt (k := 0) (x := (u : Int)) rfl
      have n1 := hw.intAt (k := 1) (x := (v : Int)) rfl
      have q0 : ((tx wPiece).toList == [112, 105, 101, 99, 101]) = true := teq wPiece
      have HSr := Lib.hid (HS.out.below hb (Nat.le_refl _))
      obtain ⟨Ac, cc, x0, xO⟩ := HSr.out.coreOwn
      have HO := Lib.hid xO
      have HB := Lib.hid hb
      have hgr : g < wr.heap.size := HSr.out.lt
      obtain ⟨n, hn⟩ : ∃ n, n = s.core.length := ⟨_, rfl⟩
      rw [← hn] at HO x0 hl
      have M1 : n + 1 ≤ maxLen := by unfold maxLen; omega
      have M2 : (n + 1) * 16 ≤ 140737488355328 := by omega
      have hn1 : n ≤ 1000 := by omega
      obtain ⟨i0, hi, hz0, hz1, hz2⟩ := info_parts infoPieceC
      have HN := Lib.hid hn
      clear hn hw hb xO HS SN0 SN1 e1' e2' hj
      go_wp2_with fail
      go_region_held3 (fun w' => w'.cell? ⟨g, 0, none⟩ = some (.slice Ac n cc) ∧ w'.cell? ⟨G, 0, none⟩ = some (.int .i64 (u : Int)) ∧ w'.cell? ⟨G, 1, none⟩ = some (.int .i64 (v : Int))) (first | (go_keep; done) | (exact K4) | (exact K2)) (first
        | (go_at_call 65; refine (cloneP_any (g + 1) Ac n cc s.core wr.drew HO.out.drew hn1).mono ?_; rintro e w2 ⟨A2, c2, rfl, o2, b2⟩; have S2 : Below wr.heap.size wr w2 := ((Below.refl wr.heap.size wr).drew).trans b2; have z2 := S2.size; have K2 := And.intro ((S2.cell (p := ⟨g, 0, none⟩) (by exact hgr)).trans x0) (And.intro ((S2.cell (p := ⟨G, 0, none⟩) (by exact hG2)).trans n0) ((S2.cell (p := ⟨G, 1, none⟩) (by exact hG2)).trans n1)))
        | (go_at_call 65; refine (cloneP_any (g + 1) Ac n cc s.core (wr.drew.alloc (.cells #[.int .i64 (u : Int), .int .i64 (v : Int)] 69)) (HO.out.drew.alloc _) hn1).mono ?_; rintro e w2 ⟨A2, c2, rfl, o2, b2⟩; have S2 : Below wr.heap.size wr w2 := (((Below.refl wr.heap.size wr).drew).alloc (Nat.le_refl _) _).trans (b2.mono (by simp)); have z2 := S2.size; have K2 := And.intro ((S2.cell (p := ⟨g, 0, none⟩) (by exact hgr)).trans x0) (And.intro ((S2.cell (p := ⟨G, 0, none⟩) (by exact hG2)).trans n0) ((S2.cell (p := ⟨G, 1, none⟩) (by exact hG2)).trans n1)))
        | (refine step_append_arr _ rfl (.tmp 56) (.tmp 64) 37 rfl wr.heap.size 69 i0 (.agg #[.int .i64 0, .int .i64 0]) 2 16 Tryz.underlying37 hi hz0 hz1 hz2 rfl (by decide) PP_length one_PP' (.slice A2 n c2) n s.core (by simp [Act.eval, Act.put]) (o2.alloc _) _ (some ⟨w2.heap.size, 0, none⟩) 1 1 [((u : Int), (v : Int))] (by simp [Act.eval, Act.put]) (Own.arr (Own.litPPc w2 w2.heap.size 69 (u : Int) (v : Int) (Nat.le_refl _)) PP_length) M1 M2 (by simp; omega) ?_; intro v4 w4 hO4 hg4 hat4; have B4 : Below wr.heap.size wr w4 := (S2.alloc z2 (.cells #[.int .i64 (u : Int), .int .i64 (v : Int)] 69)).grown hg4 (by simp; omega) (fun k hk => (o2.2.lt k hk).1); have K4 := And.intro ((B4.cell (p := ⟨g, 0, none⟩) (by exact hgr)).trans x0) (And.intro ((B4.cell (p := ⟨G, 0, none⟩) (by exact hG2)).trans n0) ((B4.cell (p := ⟨G, 1, none⟩) (by exact hG2)).trans n1)))
        | (refine step_append_arr _ rfl (.tmp 56) (.tmp 64) 37 rfl wr.heap.size 69 i0 (.agg #[.int .i64 0, .int .i64 0]) 2 16 Tryz.underlying37 hi hz0 hz1 hz2 rfl (by decide) PP_length one_PP' (.slice A2 n c2) n s.core (by simp [Act.eval, Act.put]) (o2.less (by simp)) _ (some ⟨wr.heap.size, 0, none⟩) 1 1 [((u : Int), (v : Int))] (by simp [Act.eval, Act.put]) ((Own.arr (Own.litPPc wr.drew wr.heap.size 69 (u : Int) (v : Int) (Nat.le_refl _)) PP_length).below b2 (Nat.le_refl _)) M1 M2 z2 ?_; intro v4 w4 hO4 hg4 hat4; have B4 : Below wr.heap.size wr w4 := S2.grown hg4 z2 (fun k hk => ((o2.less (base' := wr.heap.size) (by simp)).2.lt k hk).1); have K4 := And.intro ((B4.cell (p := ⟨g, 0, none⟩) (by exact hgr)).trans x0) (And.intro ((B4.cell (p := ⟨G, 0, none⟩) (by exact hG2)).trans n0) ((B4.cell (p := ⟨G, 1, none⟩) (by exact hG2)).trans n1))))
      all_goals
        obtain ⟨A5, c5, rfl, _, _⟩ := hO4.form
        have hO5 := Lib.hid hO4
        have HB4 := Lib.hid B4
        have KV := implCoreValid_any A5 (n + 1) c5 _ w4 (hO4.arr PP_length) (by omega)
        have hS4 := Lib.hid (HSr.out.below B4 (Nat.le_refl _))
        clear hO4 hg4 hat4 B4 K4 K2 S2 o2 b2 z2 n0 n1 x0 HO HN
        rw [HC.out] at KV
        have KV' := Lib.hid KV
        clear KV
        go_wp2_with (first
          | (go_at_call 67; refine KV'.out.mono ?_; rintro e w6 ⟨rfl, b6⟩; have S6 := hS4.out.below b6 (Nat.le_refl _); have SC := setCore_yes g s A5 (n + 1) c5 w6 S6)
          | (go_at_call 77; refine SC.mono ?_; rintro e w7 ⟨rfl, rfl⟩))
        go_ret2
        have O6 := (hO5.out.below b6 (Nat.le_refl _)).less (base' := g + 1) (by omega)
        exact ⟨rfl, S6.setCore O6, (grows2 (HB.out.trans ((HB4.out.trans (b6.mono HB4.out.size)).mono HB.out.size)) _).trans (setCell_grown w6 g 0 _)⟩

end Go.Proofs.YtefadlbfkhndfaaGreatDoor
