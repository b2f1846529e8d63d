/-
  What the texts below prove: contracts and plain laws, each with its conditions.
-/
import Derived.Test.YtefadlbfkhndfaaGreatDoorGN
import Derived.Test.YtefadlbfkhndfaaGreatDoorGB
import Derived.Shelf.SlicesQ.IndexFunc
import Derived.Test.YtefadlbfkhndfaaGreatDoorGA
import Derived.Lib.Builder
import Derived.MapKept
import Derived.Laws.CopyRow
import Derived.Laws.Externs
import Derived.Lib.Overlaps
import Derived.Lib.AppendZeros
import Derived.Lib.AppendZerosOnto
import Derived.Shelf.Spec.SlicesInsert
import Derived.Test.YtefadlbfkhndfaaGreatDoorGF
import Derived.Test.YtefadlbfkhndfaaGreatDoorGJ
import Derived.Deep.RegionHeld3
import Derived.BigQuiet

/-
  Contract: CoreHas of the program (its closure; slices.IndexFunc at pieces).
-/
namespace Go.Proofs.YtefadlbfkhndfaaGreatDoor
open Go.RowKit Go.Shelf
set_option linter.unusedSimpArgs false
set_option linter.unusedVariables false

theorem hasPred_any (x y d : Int) (B : Nat) (w : World) (hB : B < w.heap.size) (hc : w.cell? ⟨B, 0, none⟩ = some (.int .i64 d)) :
    Calls Tryz.prog 88 #[.agg #[.int .i64 x, .int .i64 y], .pointer (some ⟨B, 0, none⟩)] w fun e w' => e = .returned (.bool (holds d (x, y))) ∧ Below w.heap.size w w' := by
  have hne : B ≠ w.heap.size := by omega
  have hBB := (Below.refl w.heap.size w).alloc (Nat.le_refl _) (.cells #[.int .i64 x, .int .i64 y] 69)
  unfold holds
  by_cases h1 : x ≤ d
  · by_cases h2 : d < y
    · rw [show decide ((x, y).1 ≤ d ∧ d < (x, y).2) = true from decide_eq_true ⟨h1, h2⟩]
      go_enter Tryz.func88, Tryz.ntmps88
      go_wp2
      go_ret
      exact ⟨ret_bool (by simp; try omega), hBB⟩
    · rw [show decide ((x, y).1 ≤ d ∧ d < (x, y).2) = false from decide_eq_false (fun h => h2 h.2)]
      go_enter Tryz.func88, Tryz.ntmps88
      go_wp2
      go_ret
      exact ⟨ret_bool (by simp; try omega), hBB⟩
  · rw [show decide ((x, y).1 ≤ d ∧ d < (x, y).2) = false from decide_eq_false (fun h => h1 h.1)]
    go_enter Tryz.func88, Tryz.ntmps88
    go_wp2
    go_ret
    exact ⟨ret_bool (by simp; try omega), hBB⟩

set_option maxRecDepth 100000 in
set_option maxHeartbeats 2000000 in
theorem indexFunc_any (A : Option Addr) (n c : Nat) (l : List Pc) (d : Int) (B : Nat) (w : World) (h : Arr PP 2 w w.heap.size A n l) (hn : n ≤ 1000000) (hB : B < w.heap.size) (hc : w.cell? ⟨B, 0, none⟩ = some (.int .i64 d)) :
    Calls Tryz.prog 87 #[.slice A n c, .func (.func 88) #[] #[.pointer (some ⟨B, 0, none⟩)]] w fun e w' => e = .returned (.int .i64 (hasI (atL d l))) ∧ Below w.heap.size w w' := by
  have eg : ∀ args w, (callFunc 88 args).run Tryz.prog w = .ok (.enter 88 args) w := enters_of Tryz.func88 (by kernel_rfl) rfl
  have hln := Lib.hid h.1
  have HP : Hid (∀ x y W, Below w.heap.size w W → Calls Tryz.prog 88 #[.agg #[.int .i64 x, .int .i64 y], .pointer (some ⟨B, 0, none⟩)] W fun e w' => e = .returned (.bool (holds d (x, y))) ∧ Below w.heap.size w w') := Lib.hid (fun x y W hW => (hasPred_any x y d B W (Nat.lt_of_lt_of_le hB hW.size) ((hW.cell (p := ⟨B, 0, none⟩) hB).trans hc)).mono fun e w' ⟨he, h2⟩ => ⟨he, hW.trans (h2.mono hW.size)⟩)
  clear hc
  go_enter Tryz.func87, Tryz.ntmps87
  go_wp2
  go_loopw [5, 8] (fun _ i wr => ∃ k : Nat, k ≤ n ∧ i = .int .i64 k ∧ Hid (∀ p ∈ l.take k, holds d p = false) ∧ Below w.heap.size w wr) (fun _ i _ => n - (intOf i).toNat)
  case atStart => exact ⟨0, Nat.zero_le _, rfl, Lib.hid (fun p hp => by simp at hp), Below.refl _ _⟩
  case round =>
    obtain ⟨k, hk, rfl, hst, hb⟩ := hrel
    by_cases hlt : k < n
    · obtain ⟨bb, off, x, y, rfl, hbB, hx, c1, c2⟩ := h.pair hlt
      have HX := Lib.hid hx
      clear hx
      have c1' := (hb.cell (by exact hbB)).trans c1
      have c2' := (hb.cell (by exact hbB)).trans c2
      have ik : (k : Int) < (n : Int) := by omega
      have ik0 : (0 : Int) ≤ (k : Int) := by omega
      have hcall := HP.out x y wr hb
      clear c1 c2
      cases hq : holds d (x, y) with
      | true =>
        rw [hq] at hcall
        have hf := Lib.hid (show atL d l = some k from atL_here HX.out hst.out (by simpa [holds] using hq))
        clear hst
        go_wp2_with (go_at_fn 88; refine hcall.mono ?_; rintro e w' ⟨rfl, hb'⟩)
        go_ret
        exact ⟨ret_int (by rw [hf.out]; rfl), hb'⟩
      | false =>
        rw [hq] at hcall
        have hf := Lib.hid (notheld_step HX.out hst.out (by simpa [holds] using hq : ¬ (x ≤ d ∧ d < y)))
        clear hst
        go_wp2_with (go_at_fn 88; refine hcall.mono ?_; rintro e w' ⟨rfl, hb'⟩)
        go_roundw
        case rel => exact ⟨k + 1, by omega, by go_num, hf, hb'⟩
        case measure => simp [intOf]; omega
    · obtain rfl : k = n := by omega
      have hf := Lib.hid (show atL d l = none from atL_not (by have := hst.out; rwa [List.take_of_length_le (by rw [hln.out]; exact Nat.le_refl _)] at this))
      clear hst
      go_wp2
      go_ret
      exact ⟨ret_int (by rw [hf.out]; rfl), hb⟩

set_option maxHeartbeats 1000000 in
theorem implCoreHas_any (A : Option Addr) (n c : Nat) (l : List Pc) (d : Int) (w : World) (h : Arr PP 2 w w.heap.size A n l) (hn : n ≤ 1000000) :
    Calls Tryz.prog 63 #[.slice A n c, .int .i64 d] w fun e w' => e = .returned (.int .i64 (hasI (hasL l d))) ∧ Below w.heap.size w w' := by
  have hB0 := (Below.refl w.heap.size w).alloc (Nat.le_refl _) (.cells #[.int .i64 d] 3)
  have C := implCoreValid_any A n c l (w.alloc (.cells #[.int .i64 d] 3)) ((h.alloc (Nat.le_refl _) _).more (by simp)) (by omega)
  have hcell : (w.alloc (.cells #[.int .i64 d] 3)).cell? ⟨w.heap.size, 0, none⟩ = some (.int .i64 d) := by simp
  cases hB : coreB l with
  | false =>
    have hL : hasL l d = none := by unfold hasL; rw [if_neg (by simp [hB])]
    rw [hL]
    rw [hB] at C
    have C' := Lib.hid C
    clear C hB hL
    go_enter Tryz.func63, Tryz.ntmps63
    go_wp2_with (go_at_call 67; refine C'.out.mono ?_; rintro e w1 ⟨rfl, hb⟩)
    go_ret
    exact ⟨rfl, hB0.trans (hb.mono hB0.size)⟩
  | true =>
    have hL : hasL l d = atL d l := by unfold hasL; rw [if_pos hB]
    rw [hL]
    rw [hB] at C
    have C' := Lib.hid C
    have HC := Lib.hid hcell
    have HA := Lib.hid ((h.alloc (Nat.le_refl _) (.cells #[.int .i64 d] 3)).more (B' := (w.alloc (.cells #[.int .i64 d] 3)).heap.size) (by simp))
    have hz : w.heap.size < (w.alloc (.cells #[.int .i64 d] 3)).heap.size := by simp
    clear C hB hL hcell
    go_enter Tryz.func63, Tryz.ntmps63
    go_wp2_with (first
      | (go_at_call 67; refine C'.out.mono ?_; rintro e w1 ⟨rfl, hb⟩)
      | (go_at_call 87; refine (indexFunc_any A n c l d w.heap.size _ ((HA.out.below hb (Nat.le_refl _)).more hb.size) hn (Nat.lt_of_lt_of_le hz hb.size) ((hb.cell (p := ⟨w.heap.size, 0, none⟩) hz).trans HC.out)).mono ?_; rintro e w2 ⟨rfl, hb2⟩))
    go_ret
    exact ⟨rfl, hB0.trans ((hb.trans (hb2.mono hb.size)).mono hB0.size)⟩
end Go.Proofs.YtefadlbfkhndfaaGreatDoor

/-
  Contract: slices.Insert of one piece into a row of the call's own.
-/
namespace Go.Proofs.YtefadlbfkhndfaaGreatDoor
open Go.RowKit
set_option linter.unusedSimpArgs false
set_option linter.unusedVariables false

theorem run_copy2 {P : Program} (w : World) (dT sT ty elem : TypeId) (g o dLen dCap : Nat) (a : Addr) (sLen sCap : Nat) (cur : Array Value) (t : TypeId) (cs : List Value) (m : Nat)
    (hu : P.underlying dT = some (.slice elem)) (hs : (P.info? elem).map (·.size) = some 2)
    (hg : w.heap[g]? = some (.cells cur t (0, 0))) (hm : m = Nat.min sLen dLen) (hn : cs.length = m * 2)
    (hsrc : ∀ j v, cs[j]? = some v → w.cell? (a.add j) = some v) (hfit : o + cs.length ≤ cur.size) (h1 : ∀ v ∈ cs, v.oneCell' = true) :
    (Builtin.copy_ #[dT, sT] ty #[.slice (some ⟨g, o, none⟩) dLen dCap, .slice (some a) sLen sCap]).run P w =
      .ok (goInt m) (w.setRow g (cur.toList.take o ++ cs ++ cur.toList.drop (o + cs.length)).toArray) := by
  have hl := run_loadCells_list (P := P) w a cs hsrc
  have hst := run_storeCells_at P g o t cs 0 cur w hg (by simpa using hfit) h1
  cases hq : P.info? elem with
  | none => simp [hq] at hs
  | some i =>
    have hi : i.size = 2 := by simpa [hq] using hs
    rw [hn] at hl
    simp [Builtin.copy_, run_underlying hu, Builtin.lenOf, Builtin.firstCells, sizeOf, typeInfo, hq, hi, ← hm, hl, hst]

/-! ### Rows -/
theorem ins_shift {α : Type} {cur P F X : List α} {i n : Nat} (hc : 2 * n + 2 ≤ cur.length) (hi : i ≤ n) (ht : cur.take (n * 2) = P ++ F) (hP : P.length = i * 2) (hF : F.length = (n - i) * 2) (hX : X.length = 2) :
    (((cur.take ((i + 1) * 2) ++ F ++ cur.drop ((i + 1) * 2 + F.length)).take (i * 2) ++ X ++ (cur.take ((i + 1) * 2) ++ F ++ cur.drop ((i + 1) * 2 + F.length)).drop (i * 2 + X.length))).take ((n + 1) * 2) = P ++ X ++ F := by
  have e1 : (cur.take ((i + 1) * 2) ++ F ++ cur.drop ((i + 1) * 2 + F.length)).take (i * 2) = P := by
    rw [List.append_assoc, List.take_append_of_le_length (by rw [List.length_take]; omega), List.take_take, Nat.min_eq_left (by omega)]
    have : cur.take (i * 2) = (cur.take (n * 2)).take (i * 2) := by rw [List.take_take, Nat.min_eq_left (by omega)]
    rw [this, ht]
    exact List.take_left' hP
  have e2 : (cur.take ((i + 1) * 2) ++ F ++ cur.drop ((i + 1) * 2 + F.length)).drop (i * 2 + X.length) = F ++ cur.drop ((i + 1) * 2 + F.length) := by
    rw [List.append_assoc]
    exact List.drop_left' (by rw [List.length_take]; omega)
  rw [e1, e2, ← List.append_assoc]
  exact List.take_left' (by simp; omega)
theorem ins_grow {α : Type} {row P F X : List α} {i n : Nat} (hc : 2 * n + 2 ≤ row.length) (hi : i ≤ n) (ht : row.take (i * 2) = P) (hP : P.length = i * 2) (hF : F.length = (n - i) * 2) (hX : X.length = 2) :
    ((row.take (i * 2) ++ X ++ row.drop (i * 2 + X.length)).take ((i + 1) * 2) ++ F ++ (row.take (i * 2) ++ X ++ row.drop (i * 2 + X.length)).drop ((i + 1) * 2 + F.length)).take ((n + 1) * 2) = P ++ X ++ F := by
  have e1 : (row.take (i * 2) ++ X ++ row.drop (i * 2 + X.length)).take ((i + 1) * 2) = P ++ X := by
    rw [ht]
    exact List.take_left' (by simp; omega)
  rw [e1]
  exact List.take_left' (by simp; omega)
theorem grown_setRow {w w' : World} {g : Nat} (h : w.grownBy w' (some g)) (R : Array Value) : w.grownBy (w'.setRow g R) (some g) :=
  ⟨h.os, h.tape, h.output, by simpa using h.size, fun k hk hne => (setRow_other w' g k R (fun e => hne (by rw [e]))).trans (h.block k hk hne)⟩
theorem grown_setRow_new {w w' : World} {row : Option Nat} {N : Nat} (h : w.grownBy w' row) (hN : w.heap.size ≤ N) (R : Array Value) : w.grownBy (w'.setRow N R) row :=
  ⟨h.os, h.tape, h.output, by simpa using h.size, fun k hk hne => (setRow_other w' N k R (by omega)).trans (h.block k hk hne)⟩
theorem grown_drewI (w : World) (row : Option Nat) : w.grownBy w.drew row := ⟨rfl, rfl, rfl, Nat.le_refl _, fun _ _ _ => rfl⟩
theorem PP_flat_len (l : List Pc) : (l.flatMap PP).length = l.length * 2 := length_flatMap PP_length l
theorem PP_one (l : List Pc) : ∀ v ∈ l.flatMap PP, v.oneCell' = true := fun u hu => by
  obtain ⟨x, _, hx⟩ := List.mem_flatMap.1 hu
  exact one_PP' x u hx

theorem ovl_apart (w : World) (vb g o lb cb n c : Nat) (x y : Int) (cur : Array Value) (hv : w.heap[vb]? = some (.cells #[.int .i64 x, .int .i64 y] 69 (0, 0))) (hg : w.heap[g]? = some (.cells cur 69 (0, 0))) (hne : vb ≠ g) (hc : cur.size ≠ 0) :
    (callFunc 89 #[.slice (some ⟨vb, 0, none⟩) 1 1, .slice (some ⟨g, o, none⟩) lb cb]).run Tryz.prog w = .ok (.value (.bool false)) w := by
  rw [run_callFunc_extern Tryz.func89 (by kernel_rfl) (by kernel_rfl) (by kernel_rfl) (e := Extern.SlicesOverlaps.overlaps #[37, 37] #[4]) (by kernel_rfl),
    Lib.run_overlaps_apart w 37 4 69 Tryz.underlying37 2 Tryz.sizeOf69 ⟨vb, 0, none⟩ ⟨g, o, none⟩ 1 1 lb cb hne 69 69 2 cur.size
      (by unfold World.shape?; rw [hv]; rfl) (by unfold World.shape?; rw [hg]) hc (Lib.frozen_of_heap hv 0) (Lib.frozen_of_heap hv 2)]
  rfl

set_option maxRecDepth 100000 in
set_option maxHeartbeats 4000000 in
theorem insertP_shift (base g n c i : Nat) (l : List Pc) (x y : Int) (vb : Nat) (w : World) (h : Own PP 2 w base 69 (.slice (some ⟨g, 0, none⟩) n c) n l) (hi : i < n) (hn : n ≤ 1000) (hroom : n + 1 ≤ c)
    (hv : w.heap[vb]? = some (.cells #[.int .i64 x, .int .i64 y] 69 (0, 0))) (hne : vb ≠ g) :
    Calls Tryz.prog 64 #[.slice (some ⟨g, 0, none⟩) n c, .int .i64 i, .slice (some ⟨vb, 0, none⟩) 1 1] w fun e w' =>
      ∃ g' c', e = .returned (.slice (some ⟨g', 0, none⟩) (n + 1) c') ∧ Own PP 2 w' base 69 (.slice (some ⟨g', 0, none⟩) (n + 1) c') (n + 1) (l.take i ++ (x, y) :: l.drop i) ∧ w.grownBy w' (some g) := by
  obtain ⟨hl, hxs, h0 | ⟨g', cap, cur, e, hbg, hg, hnc, hcm, hcs, htk⟩⟩ := h
  · exact absurd h0.1 (by simp)
  injection e with e1 e2 e3
  injection e1 with e1
  injection e1 with e1 _ _
  subst e1; subst e3
  have hvl : vb < w.heap.size := (Array.getElem?_eq_some_iff.1 hv).1
  have hgl : g < w.heap.size := (Array.getElem?_eq_some_iff.1 hg).1
  have hsz : (Tryz.prog.info? 69).map (·.size) = some 2 := by kernel_rfl
  have hul := Tryz.underlying37
  have hP : ((l.take i).flatMap PP).length = i * 2 := by rw [PP_flat_len, List.length_take, hl, Nat.min_eq_left (by omega)]
  have hF : ((l.drop i).flatMap PP).length = (n - i) * 2 := by rw [PP_flat_len, List.length_drop, hl]
  have hPF : cur.toList.take (n * 2) = (l.take i).flatMap PP ++ (l.drop i).flatMap PP := by rw [htk, ← List.flatMap_append, List.take_append_drop]
  have hcl : cur.toList.length = c * 2 := by rw [Array.length_toList]; exact hcs
  have hsrcF : ∀ (W : World), W.heap = w.heap → ∀ j v, ((l.drop i).flatMap PP)[j]? = some v → W.cell? ((⟨g, i * 2, none⟩ : Addr).add j) = some v := fun W hW j v hj => by
    rw [Addr.add_lit, Lib.cell_of_heap (by rw [hW]; exact hg) (i * 2 + j)]
    have h1 : j < (n - i) * 2 := by rw [← hF]; exact (List.getElem?_eq_some_iff.1 hj).1
    have h2 : (cur.toList.take (n * 2))[i * 2 + j]? = some v := by rw [hPF, List.getElem?_append_right (by omega), hP, Nat.add_sub_cancel_left]; exact hj
    rw [List.getElem?_take, if_pos (by omega)] at h2
    rw [← Array.getElem?_toList]
    exact h2
  obtain ⟨R1, hR1⟩ : ∃ R, R = (cur.toList.take ((i + 1) * 2) ++ (l.drop i).flatMap PP ++ cur.toList.drop ((i + 1) * 2 + ((l.drop i).flatMap PP).length)).toArray := ⟨_, rfl⟩
  have hR1s : R1.size = c * 2 := by rw [hR1]; simp only [List.size_toArray, List.length_append, List.length_take, List.length_drop]; omega
  have cp1 : ∀ (W : World), W.heap = w.heap → ∀ ty dc sc, (Builtin.copy_ #[37, 37] ty #[.slice (some ⟨g, (i + 1) * 2, none⟩) (n - i) dc, .slice (some ⟨g, i * 2, none⟩) (n + 1 - i) sc]).run Tryz.prog W = .ok (goInt ((n - i : Nat) : Int)) (W.setRow g R1) := fun W hW ty dc sc => by
    rw [hR1]
    exact run_copy2 W _ _ ty 69 g ((i + 1) * 2) (n - i) dc ⟨g, i * 2, none⟩ (n + 1 - i) sc cur 69 _ (n - i) hul hsz (by rw [hW]; exact hg) (by simp only [Nat.min_def]; split <;> omega) hF (hsrcF W hW) (by rw [hF]; omega) (PP_one _)
  obtain ⟨R2, hR2⟩ : ∃ R, R = (R1.toList.take (i * 2) ++ [Value.int .i64 x, .int .i64 y] ++ R1.toList.drop (i * 2 + [Value.int .i64 x, .int .i64 y].length)).toArray := ⟨_, rfl⟩
  have hR2s : R2.size = c * 2 := by rw [hR2]; simp only [List.size_toArray, List.length_append, List.length_take, List.length_drop, Array.length_toList, hR1s, List.length_cons, List.length_nil]; omega
  have cp2 : ∀ (W : World), W.heap = (w.setRow g R1).heap → ∀ ty dc, (Builtin.copy_ #[37, 37] ty #[.slice (some ⟨g, i * 2, none⟩) (n + 1 - i) dc, .slice (some ⟨vb, 0, none⟩) 1 1]).run Tryz.prog W = .ok (goInt ((1 : Nat) : Int)) (W.setRow g R2) := fun W hW ty dc => by
    rw [hR2]
    exact run_copy2 W _ _ ty 69 g (i * 2) (n + 1 - i) dc ⟨vb, 0, none⟩ 1 1 R1 69 _ 1 hul hsz (by rw [hW]; exact setRow_heap w g cur R1 _ _ hg) (by simp only [Nat.min_def]; split <;> omega) rfl (fun j v hj => by
      rw [Addr.add_lit, Lib.cell_of_heap (by rw [hW, setRow_other w g vb R1 hne]; exact hv) (0 + j), Nat.zero_add, ← Array.getElem?_toList]
      exact hj) (by rw [hR1s]; simp; omega) (by intro v hv; simp at hv; rcases hv with rfl | rfl <;> rfl)
  have hov : ∀ o lb cb, (callFunc 89 #[.slice (some ⟨vb, 0, none⟩) 1 1, .slice (some ⟨g, o, none⟩) lb cb]).run Tryz.prog w = .ok (.value (.bool false)) w := fun o lb cb => ovl_apart w vb g o lb cb n c x y cur hv hg hne (by omega)
  have hfin : Hid (R2.toList.take ((n + 1) * 2) = (l.take i ++ (x, y) :: l.drop i).flatMap PP) := Lib.hid (by
    have := ins_shift (cur := cur.toList) (X := [Value.int .i64 x, .int .i64 y]) (n := n) (by omega) (by omega) hPF hP hF rfl
    rw [hR2, hR1]
    simp only [List.toList_toArray] at this ⊢
    rw [this, List.flatMap_append, List.flatMap_cons]
    simp [PP])
  have hlen : Hid ((l.take i ++ (x, y) :: l.drop i).length = n + 1) := Lib.hid (by simp; omega)
  have hgg : ∀ (W : World), W.heap = (w.setRow g R1).heap → (W.setRow g R2).heap[g]? = some (.cells R2 69 (0, 0)) := fun W hW => setRow_heap W g R1 R2 _ _ (by rw [hW]; exact setRow_heap w g cur R1 _ _ hg)
  have CP1 := Lib.hid cp1
  have CP2 := Lib.hid cp2
  have HGG := Lib.hid hgg
  have HB := Lib.hid hbg
  have HR2 := Lib.hid hR2s
  have HC := Lib.hid hcm
  have HXL := Lib.hid (PP_flat_len (l.take i ++ (x, y) :: l.drop i))
  have hw1 : IntKind.i64.wrap ((i : Int) + 1) = (i : Int) + 1 := IntWalk.i64_in _ ⟨by omega, by omega⟩
  have hw2 : IntKind.i64.wrap ((n : Int) + 1) = (n : Int) + 1 := IntWalk.i64_in _ ⟨by omega, by omega⟩
  have hz2 : ¬ ((i : Int) = (n : Int)) := by omega
  have hz2' : ((i : Int) == (n : Int)) = false := by simp; omega
  have hci : ¬ (c = i) := by omega
  have hci1 : ¬ (c = i + 1) := by omega
  have hin : (i : Int) ≤ (n : Int) := by omega
  have hr3 : ¬ ((c : Int) < (n : Int) + 1) := by omega
  have hr4 : (n : Int) + 1 ≤ (c : Int) := by omega
  have hi3 : (i : Int) ≤ (n : Int) + 1 := by omega
  have hb1 : (0 : Int) ≤ (i : Int) + 1 := by omega
  have hinN : i ≤ n := by omega
  have mixed : Tryz.prog.follows Departure.mixedOrders = true := by kernel_rfl
  have htn : ((i : Int) + 1).toNat = i + 1 := by omega
  clear cp1 cp2 hgg hR1 hR2 hR1s hR2s hPF hP hF hsrcF htk hxs hl hcl hcs hcm hg hv hsz hul hbg hnc
  go_enter Tryz.func64, Tryz.ntmps64
  go_wp2_with (simp only [hov])
  go_region_law_o (refine step_copy_runI rfl _ _ 37 37 rfl (.slice (some ⟨g, (i + 1) * 2, none⟩) (n - i) (c - (i + 1))) (.slice (some ⟨g, i * 2, none⟩) (n + 1 - i) (c - i)) (by simp [Act.eval, Act.put]) (by simp [Act.eval, Act.put]) (CP1.out w.drew rfl 3 (c - (i + 1)) (c - i)) ?_)
  have CP3 := CP2.out (w.drew.setRow g R1) rfl 3 (c - i)
  go_wp2_with (at_builtin; refine wpList_copy_runI _ rfl _ _ 37 37 rfl _ _ rfl rfl CP3 ?_)
  go_ret
  exact ⟨g, c, rfl, ⟨hlen.out, by rw [HXL.out, hlen.out], .inr ⟨g, c, R2, rfl, HB.out, HGG.out _ rfl, hroom, HC.out, HR2.out, hfin.out⟩⟩, grown_setRow (grown_setRow (grown_drewI w _) _) _⟩

set_option maxRecDepth 100000 in
set_option maxHeartbeats 4000000 in
theorem insertP_grow (base g n c i : Nat) (l : List Pc) (x y : Int) (vb : Nat) (w : World) (h : Own PP 2 w base 69 (.slice (some ⟨g, 0, none⟩) n c) n l) (hi : i < n) (hn : n ≤ 1000) (hroom : c < n + 1)
    (hv : w.heap[vb]? = some (.cells #[.int .i64 x, .int .i64 y] 69 (0, 0))) (hne : vb ≠ g) :
    Calls Tryz.prog 64 #[.slice (some ⟨g, 0, none⟩) n c, .int .i64 i, .slice (some ⟨vb, 0, none⟩) 1 1] w fun e w' =>
      ∃ g' c', e = .returned (.slice (some ⟨g', 0, none⟩) (n + 1) c') ∧ Own PP 2 w' base 69 (.slice (some ⟨g', 0, none⟩) (n + 1) c') (n + 1) (l.take i ++ (x, y) :: l.drop i) ∧ w.grownBy w' (some g) := by
  obtain ⟨hl, hxs, h0 | ⟨g', cap, cur, e, hbg, hg, hnc, hcm, hcs, htk⟩⟩ := h
  · exact absurd h0.1 (by simp)
  injection e with e1 e2 e3
  injection e1 with e1
  injection e1 with e1 _ _
  subst e1; subst e3
  obtain rfl : c = n := by omega
  have hvl : vb < w.heap.size := (Array.getElem?_eq_some_iff.1 hv).1
  have hgl : g < w.heap.size := (Array.getElem?_eq_some_iff.1 hg).1
  have hsz : (Tryz.prog.info? 69).map (·.size) = some 2 := by kernel_rfl
  have hul := Tryz.underlying37
  have hui := Tryz.underlying3
  obtain ⟨i0, hi0, hz0, hz1, hz2⟩ := info_parts infoPc
  have hP : ((l.take i).flatMap PP).length = i * 2 := by rw [PP_flat_len, List.length_take, hl, Nat.min_eq_left (by omega)]
  have hF : ((l.drop i).flatMap PP).length = (c - i) * 2 := by rw [PP_flat_len, List.length_drop, hl]
  have hPF : cur.toList.take (c * 2) = (l.take i).flatMap PP ++ (l.drop i).flatMap PP := by rw [htk, ← List.flatMap_append, List.take_append_drop]
  have hcell : ∀ (W : World), (∀ k, k < w.heap.size → W.heap[k]? = w.heap[k]?) → ∀ j v, (cur.toList.take (c * 2))[j]? = some v → W.cell? ⟨g, j, none⟩ = some v := fun W hW j v hj => by
    rw [Lib.cell_of_heap (by rw [hW g hgl]; exact hg) j]
    have h1 : j < c * 2 := by have := (List.getElem?_eq_some_iff.1 hj).1; rw [List.length_take] at this; omega
    rw [List.getElem?_take, if_pos h1] at hj
    rw [← Array.getElem?_toList]
    exact hj
  have hold : (Builtin.firstCells i0.size i (.slice (some ⟨g, 0, none⟩) i c)).run Tryz.prog w.drew = .ok ((l.take i).flatMap PP).toArray w.drew := by
    rw [hz1]
    exact run_firstCells_some w.drew 2 i ⟨g, 0, none⟩ i c _ hP (fun j v hj => by
      rw [Addr.add_lit, Nat.zero_add]
      refine hcell w.drew (fun _ _ => rfl) j v ?_
      rw [hPF, List.getElem?_append_left (by rw [hP]; have := (List.getElem?_eq_some_iff.1 hj).1; omega)]
      exact hj)
  have hrz : ∀ ty, (Builtin.append_ #[37, 3] ty #[.slice (some ⟨g, 0, none⟩) i c, .int .i64 ((c + 1 - i : Nat) : Int)]).run Tryz.prog w = _ := fun ty =>
    Lib.run_append_grow_zeros w 37 3 ty 69 i0 _ .i64 .i64 hul hui hi0 hz0 (some ⟨g, 0, none⟩) i c _ hold (c + 1 - i) (by omega) (by rw [hz1]; decide) (by omega) (by omega) (by rw [hz2]; omega) (by rw [hz2, show i + (c + 1 - i) = c + 1 by omega]; exact growslice_fits (by omega) (by omega))
  rw [show i + (c + 1 - i) = c + 1 by omega] at hrz
  obtain ⟨G, hG⟩ : ∃ G, G = grownCap w (c + 1) c 69 := ⟨_, rfl⟩
  have hGn : c + 1 ≤ G := by rw [hG]; exact grownCap_ge w _ _ _
  have hGm : G ≤ maxLen := by rw [hG]; exact grownCap_le_maxLen w (c + 1) c 69 (by unfold maxLen; omega)
  obtain ⟨ROW, hROW⟩ : ∃ ROW : Array Value, ROW = ((l.take i).flatMap PP).toArray ++ Builtin.zeroCells (Value.agg #[.int .i64 0, .int .i64 0]).cells (c + 1 - i) ++ Builtin.zeroCells (Value.agg #[.int .i64 0, .int .i64 0]).cells (G - (c + 1)) := ⟨_, rfl⟩
  rw [← hG, ← hROW] at hrz
  have hRs : ROW.size = G * 2 := by
    rw [hROW]
    simp only [Array.size_append, List.size_toArray, hP, Builtin.zeroCells, Value.cells, Array.size_map, Array.size_range]
    show i * 2 + (c + 1 - i) * 2 + (G - (c + 1)) * 2 = G * 2
    omega
  have hRt : ROW.toList.take (i * 2) = (l.take i).flatMap PP := by
    rw [hROW, Array.append_assoc, Array.toList_append]
    exact List.take_left' (by simpa using hP)
  have hRl : ROW.toList.length = G * 2 := by rw [Array.length_toList]; exact hRs
  obtain ⟨N, hN⟩ : ∃ N, N = w.heap.size := ⟨_, rfl⟩
  obtain ⟨W1, hW1⟩ : ∃ W1, W1 = w.drew.alloc (.cells ROW 69) := ⟨_, rfl⟩
  have hW1N : W1.heap[N]? = some (.cells ROW 69 (0, 0)) := by rw [hW1, hN]; exact (MapKept.heap_alloc w.drew (.cells ROW 69)).1
  have hW1o : ∀ k, k < w.heap.size → W1.heap[k]? = w.heap[k]? := fun k hk => by rw [hW1]; exact ((Below.refl w.drew.heap.size w.drew).alloc (Nat.le_refl _) (.cells ROW 69)).block k hk
  rw [← hW1, ← hN] at hrz
  obtain ⟨R1, hR1⟩ : ∃ R, R = (ROW.toList.take (i * 2) ++ [Value.int .i64 x, .int .i64 y] ++ ROW.toList.drop (i * 2 + [Value.int .i64 x, .int .i64 y].length)).toArray := ⟨_, rfl⟩
  have hR1s : R1.size = G * 2 := by rw [hR1]; simp only [List.size_toArray, List.length_append, List.length_take, List.length_drop, List.length_cons, List.length_nil]; omega
  have cp1 : ∀ (W : World), W.heap = W1.heap → ∀ ty dc, (Builtin.copy_ #[37, 37] ty #[.slice (some ⟨N, i * 2, none⟩) (c + 1 - i) dc, .slice (some ⟨vb, 0, none⟩) 1 1]).run Tryz.prog W = .ok (goInt ((1 : Nat) : Int)) (W.setRow N R1) := fun W hW ty dc => by
    rw [hR1]
    exact run_copy2 W _ _ ty 69 N (i * 2) (c + 1 - i) dc ⟨vb, 0, none⟩ 1 1 ROW 69 _ 1 hul hsz (by rw [hW]; exact hW1N) (by simp only [Nat.min_def]; split <;> omega) rfl (fun j v hj => by
      rw [Addr.add_lit, Lib.cell_of_heap (by rw [hW, hW1o vb hvl]; exact hv) (0 + j), Nat.zero_add, ← Array.getElem?_toList]
      exact hj) (by rw [hRs]; simp; omega) (by intro v hv; simp at hv; rcases hv with rfl | rfl <;> rfl)
  obtain ⟨R2, hR2⟩ : ∃ R, R = (R1.toList.take ((i + 1) * 2) ++ (l.drop i).flatMap PP ++ R1.toList.drop ((i + 1) * 2 + ((l.drop i).flatMap PP).length)).toArray := ⟨_, rfl⟩
  have hR2s : R2.size = G * 2 := by rw [hR2]; simp only [List.size_toArray, List.length_append, List.length_take, List.length_drop, Array.length_toList, hR1s, hF]; omega
  have hgN : g ≠ N := by omega
  have cp2 : ∀ (W : World), W.heap = (W1.setRow N R1).heap → ∀ ty dc sc, (Builtin.copy_ #[37, 37] ty #[.slice (some ⟨N, (i + 1) * 2, none⟩) (c - i) dc, .slice (some ⟨g, i * 2, none⟩) (c - i) sc]).run Tryz.prog W = .ok (goInt ((c - i : Nat) : Int)) (W.setRow N R2) := fun W hW ty dc sc => by
    rw [hR2]
    exact run_copy2 W _ _ ty 69 N ((i + 1) * 2) (c - i) dc ⟨g, i * 2, none⟩ (c - i) sc R1 69 _ (c - i) hul hsz (by rw [hW]; exact setRow_heap W1 N ROW R1 _ _ hW1N) (by simp only [Nat.min_def]; split <;> omega) hF (fun j v hj => by
      rw [Addr.add_lit]
      refine hcell W (fun k hk => by rw [hW, setRow_other W1 N k R1 (by omega)]; exact hW1o k hk) _ _ ?_
      rw [hPF, List.getElem?_append_right (by omega), hP, Nat.add_sub_cancel_left]; exact hj) (by rw [hR1s, hF]; omega) (PP_one _)
  have hfin : Hid (R2.toList.take ((c + 1) * 2) = (l.take i ++ (x, y) :: l.drop i).flatMap PP) := Lib.hid (by
    have := ins_grow (row := ROW.toList) (X := [Value.int .i64 x, .int .i64 y]) (n := c) (by omega) (by omega) hRt hP hF rfl
    rw [hR2, hR1]
    simp only [List.toList_toArray] at this ⊢
    rw [this, List.flatMap_append, List.flatMap_cons]
    simp [PP])
  have hlen : Hid ((l.take i ++ (x, y) :: l.drop i).length = c + 1) := Lib.hid (by simp; omega)
  have hgg : ∀ (W : World), W.heap = (W1.setRow N R1).heap → (W.setRow N R2).heap[N]? = some (.cells R2 69 (0, 0)) := fun W hW => setRow_heap W N R1 R2 _ _ (by rw [hW]; exact setRow_heap W1 N ROW R1 _ _ hW1N)
  have hgrow : ∀ (W : World), W.os = W1.os → W.tape = W1.tape → W.output = W1.output → W.heap = (W1.setRow N R1).heap → w.grownBy (W.setRow N R2) (some g) := fun W h1 h2 h3 h4 => by
    have ho : W1.os = w.os := by rw [hW1]; rfl
    have ht : W1.tape = w.tape := by rw [hW1]; rfl
    have hu : W1.output = w.output := by rw [hW1]; rfl
    refine grown_setRow_new ⟨h1.trans ho, h2.trans ht, h3.trans hu, ?_, fun k hk _ => ?_⟩ (by omega) R2
    · rw [h4, hW1]; simp
    · rw [h4, setRow_other W1 N k R1 (by omega)]; exact hW1o k hk
  have CP1 := Lib.hid cp1
  have CP2 := Lib.hid cp2
  have HGG := Lib.hid hgg
  have HGR := Lib.hid hgrow
  have HB := Lib.hid (show base ≤ N by omega)
  have HR2 := Lib.hid hR2s
  have HGm := Lib.hid hGm
  have HGn := Lib.hid hGn
  have HXL := Lib.hid (PP_flat_len (l.take i ++ (x, y) :: l.drop i))
  have hw1 : IntKind.i64.wrap ((i : Int) + 1) = (i : Int) + 1 := IntWalk.i64_in _ ⟨by omega, by omega⟩
  have hw2 : IntKind.i64.wrap ((c : Int) + 1) = (c : Int) + 1 := IntWalk.i64_in _ ⟨by omega, by omega⟩
  have hw3 : (c : Int) + 1 - (i : Int) = ((c + 1 - i : Nat) : Int) := by omega
  have hz2 : ¬ ((i : Int) = (c : Int)) := by omega
  have hz2' : ((i : Int) == (c : Int)) = false := by simp; omega
  have hci : ¬ (c = i) := by omega
  have hGi : ¬ (G = i) := by omega
  have hGi1 : ¬ (G = i + 1) := by omega
  have hin : (i : Int) ≤ (c : Int) := by omega
  have hr3 : (c : Int) < (c : Int) + 1 := by omega
  have hG63 : G ≤ 9223372036854775807 := by unfold maxLen at hGm; omega
  have hi3 : (i : Int) ≤ (c : Int) + 1 := by omega
  have hb1 : (0 : Int) ≤ (i : Int) + 1 := by omega
  have hinN : i ≤ c := by omega
  have htn : ((i : Int) + 1).toNat = i + 1 := by omega
  have mixed : Tryz.prog.follows Departure.mixedOrders = true := by kernel_rfl
  have HRZ := Lib.hid hrz
  have HW := Lib.hid hW1
  have CP4 := cp1 W1 rfl 3 (G - i)
  clear cp1 cp2 hgg hgrow hR1 hR2 hR1s hR2s hPF hP hF htk hxs hl hcs hcm hg hv hsz hul hui hbg hnc hcell hold hrz hROW hRs hRt hRl hW1N hW1o hW1 hG hGm hi0 hz0 hz1 hz2 hgN hN hvl hgl
  go_enter Tryz.func64, Tryz.ntmps64
  go_wp2_with (first
    | (at_builtin; refine Lib.wpList_append_run _ rfl _ _ _ _ rfl _ _ rfl rfl _ _ (HRZ.out _) ?_)
    | (at_builtin; refine wpList_copy_runI _ rfl _ _ 37 37 rfl _ _ rfl rfl CP4 ?_))
  go_region_law_o (refine step_copy_runI rfl _ _ 37 37 rfl (.slice (some ⟨N, (i + 1) * 2, none⟩) (c - i) (G - (i + 1))) (.slice (some ⟨g, i * 2, none⟩) (c - i) (c - i)) (by simp [Act.eval, Act.put]) (by simp [Act.eval, Act.put]) (CP2.out (W1.setRow N R1).drew rfl 3 (G - (i + 1)) (c - i)) ?_)
  go_wp2
  go_ret
  exact ⟨N, G, rfl, ⟨hlen.out, by rw [HXL.out, hlen.out], .inr ⟨N, G, R2, rfl, HB.out, HGG.out _ rfl, HGn.out, HGm.out, HR2.out, hfin.out⟩⟩, HGR.out _ rfl rfl rfl rfl⟩

set_option maxRecDepth 100000 in
set_option maxHeartbeats 4000000 in
theorem insertP_end (base g n c : Nat) (l : List Pc) (x y : Int) (vb : Nat) (w : World) (h : Own PP 2 w base 69 (.slice (some ⟨g, 0, none⟩) n c) n l) (hn : n ≤ 1000)
    (hv : w.heap[vb]? = some (.cells #[.int .i64 x, .int .i64 y] 69 (0, 0))) (hb : base ≤ w.heap.size) :
    Calls Tryz.prog 64 #[.slice (some ⟨g, 0, none⟩) n c, .int .i64 n, .slice (some ⟨vb, 0, none⟩) 1 1] w fun e w' =>
      ∃ g' c', e = .returned (.slice (some ⟨g', 0, none⟩) (n + 1) c') ∧ Own PP 2 w' base 69 (.slice (some ⟨g', 0, none⟩) (n + 1) c') (n + 1) (l.take n ++ (x, y) :: l.drop n) ∧ w.grownBy w' (some g) := by
  obtain ⟨i0, hi, hz0, hz1, hz2⟩ := info_parts infoPc
  have hvl : vb < w.heap.size := (Array.getElem?_eq_some_iff.1 hv).1
  have hA : Arr PP 2 w w.heap.size (some ⟨vb, 0, none⟩) 1 [(x, y)] := ⟨rfl, fun _ => ⟨vb, 0, rfl, hvl, fun k z hk j u hj => by
    obtain rfl : k = 0 := by have := (List.getElem?_eq_some_iff.1 hk).1; simp at this; exact this
    simp only [List.getElem?_cons_zero, Option.some.injEq] at hk
    subst hk
    simp only [Nat.zero_mul, Nat.zero_add]
    rw [Lib.cell_of_heap hv, ← Array.getElem?_toList]
    exact hj⟩⟩
  have hl := Lib.hid (show l.take n ++ (x, y) :: l.drop n = l ++ [(x, y)] by rw [List.take_of_length_le (by rw [h.1]; exact Nat.le_refl _), List.drop_of_length_le (by rw [h.1]; exact Nat.le_refl _)])
  obtain ⟨_, _, e, hnc, hcm⟩ := h.form
  injection e with e1 _ e3
  subst e1; subst e3
  have hcn : (n : Int) ≤ (c : Int) := by omega
  rw [hl.out]
  by_cases hc : c = n
  · subst hc
    go_enter Tryz.func64, Tryz.ntmps64
    go_wp2_with (at_builtin; refine wpList_append_arr _ rfl _ _ 37 rfl base 69 i0 (.agg #[.int .i64 0, .int .i64 0]) 2 16 Tryz.underlying37 hi hz0 hz1 hz2 rfl (by decide) PP_length one_PP' _ c l rfl h w.heap.size _ 1 1 [(x, y)] rfl hA (by unfold maxLen; omega) (by omega) hb ?_)
    intro v' w2 hO hg _
    obtain ⟨G, cG, rfl, _, _, _⟩ := hO.head (by omega)
    go_wp2
    go_ret
    exact ⟨G, cG, rfl, hO, hg⟩
  · go_enter Tryz.func64, Tryz.ntmps64
    go_wp2_with (at_builtin; refine wpList_append_arr _ rfl _ _ 37 rfl base 69 i0 (.agg #[.int .i64 0, .int .i64 0]) 2 16 Tryz.underlying37 hi hz0 hz1 hz2 rfl (by decide) PP_length one_PP' _ n l rfl h w.heap.size _ 1 1 [(x, y)] rfl hA (by unfold maxLen; omega) (by omega) hb ?_)
    intro v' w2 hO hg _
    obtain ⟨G, cG, rfl, _, _, _⟩ := hO.head (by omega)
    go_wp2
    go_ret
    exact ⟨G, cG, rfl, hO, hg⟩

theorem insertP_any (base g n c i : Nat) (l : List Pc) (x y : Int) (vb : Nat) (w : World) (h : Own PP 2 w base 69 (.slice (some ⟨g, 0, none⟩) n c) n l) (hi : i ≤ n) (hn : n ≤ 1000)
    (hv : w.heap[vb]? = some (.cells #[.int .i64 x, .int .i64 y] 69 (0, 0))) (hne : vb ≠ g) (hb : base ≤ w.heap.size) :
    Calls Tryz.prog 64 #[.slice (some ⟨g, 0, none⟩) n c, .int .i64 i, .slice (some ⟨vb, 0, none⟩) 1 1] w fun e w' =>
      ∃ g' c', e = .returned (.slice (some ⟨g', 0, none⟩) (n + 1) c') ∧ Own PP 2 w' base 69 (.slice (some ⟨g', 0, none⟩) (n + 1) c') (n + 1) (l.take i ++ (x, y) :: l.drop i) ∧ w.grownBy w' (some g) := by
  rcases Nat.lt_or_ge i n with h1 | h1
  · rcases Nat.lt_or_ge c (n + 1) with h2 | h2
    · exact insertP_grow base g n c i l x y vb w h h1 hn h2 hv hne
    · exact insertP_shift base g n c i l x y vb w h h1 hn h2 hv hne
  · obtain rfl : i = n := by omega
    exact insertP_end base g i c l x y vb w h hn hv hb
end Go.Proofs.YtefadlbfkhndfaaGreatDoor

/-
  Contract: CoreCut of the program.
-/
namespace Go.Proofs.YtefadlbfkhndfaaGreatDoor
open Go.RowKit
set_option linter.unusedSimpArgs false
set_option linter.unusedVariables false

theorem cut_set {l : List Pc} {k : Nat} {x y d : Int} (hx : l[k]? = some (x, y)) : (l.take (k + 1) ++ (d, y) :: l.drop (k + 1)).set k (x, d) = l.take k ++ (x, d) :: (d, y) :: l.drop (k + 1) := by
  have hk : k < l.length := (List.getElem?_eq_some_iff.1 hx).1
  have hl : (l.take k).length = k := by rw [List.length_take]; omega
  rw [take_snoc hx, List.append_assoc]
  have := List.set_append_right (s := l.take k) (t := [(x, y)] ++ (d, y) :: l.drop (k + 1)) k (x, d) (by omega)
  rw [this, hl, Nat.sub_self]
  rfl
theorem cut_get {l : List Pc} {k : Nat} {x y d : Int} (hx : l[k]? = some (x, y)) : (l.take (k + 1) ++ (d, y) :: l.drop (k + 1))[k]? = some (x, y) := by
  have hk : k < l.length := (List.getElem?_eq_some_iff.1 hx).1
  rw [List.getElem?_append_left (by rw [List.length_take]; omega), List.getElem?_take, if_pos (by omega)]
  exact hx
theorem insertP_at (base g n c i : Nat) (l : List Pc) (x y : Int) (vb : Nat) (w : World) (h : Own PP 2 w base 69 (.slice (some ⟨g, 0, none⟩) n c) n l) (hi : i < n) (hn : n ≤ 1000)
    (hv : w.heap[vb]? = some (.cells #[.int .i64 x, .int .i64 y] 69 (0, 0))) (hne : vb ≠ g) (hb : base ≤ w.heap.size) :
    Calls Tryz.prog 64 #[.slice (some ⟨g, 0, none⟩) n c, .int .i64 ((i : Int) + 1), .slice (some ⟨vb, 0, none⟩) 1 1] w fun e w' =>
      ∃ g' c', e = .returned (.slice (some ⟨g', 0, none⟩) (n + 1) c') ∧ Own PP 2 w' base 69 (.slice (some ⟨g', 0, none⟩) (n + 1) c') (n + 1) (l.take (i + 1) ++ (x, y) :: l.drop (i + 1)) ∧ w.grownBy w' (some g) :=
  insertP_any base g n c (i + 1) l x y vb w h (by omega) hn hv hne hb

set_option maxRecDepth 100000 in
set_option maxHeartbeats 8000000 in
theorem implCoreCut_any (base : Nat) (A : Option Addr) (n c : Nat) (l : List Pc) (d : Int) (w : World) (hO : Own PP 2 w base 69 (.slice A n c) n l) (hn : n ≤ 1000) :
    Calls Tryz.prog 33 #[.slice A n c, .int .i64 d] w (RetPc 69 w ((coreCutL l d).getD []) (coreCutL l d).isSome) := by
  have h := hO.arr PP_length
  have hln := Lib.hid h.1
  have C := implCoreHas_any A n c l d w h (by omega)
  cases hH : hasL l d with
  | none =>
    rw [hH] at C
    have C' := Lib.hid C
    rw [coreCutL_none hH]
    clear C hH
    go_enter Tryz.func33, Tryz.ntmps33
    go_wp2_with (go_at_call 63; refine C'.out.mono ?_; rintro e w1 ⟨rfl, hb⟩)
    go_ret2
    exact retPc_no hb
  | some k =>
    rw [hH] at C
    have C' := Lib.hid C
    obtain ⟨hcB, x, y, hx, hxd, hdy⟩ := hasL_some hH
    have hk : k < n := by rw [← h.1]; exact (List.getElem?_eq_some_iff.1 hx).1
    obtain ⟨b, off, x', y', rfl, hbB, hx', c1, c2⟩ := h.pair hk
    rw [hx] at hx'
    injection hx' with hx'
    injection hx' with h1 h2
    subst h1; subst h2
    have ik0 : ¬ ((k : Int) < 0) := by omega
    have ik1 : (0 : Int) ≤ (k : Int) := by omega
    have ik2 : (k : Int) < (n : Int) := by omega
    have C2 : Hid (Calls Tryz.prog 63 #[.slice (some ⟨b, off, none⟩) n c, .int .i64 d] w fun e w' => e = .returned (.int .i64 (k : Int)) ∧ Below w.heap.size w w' ∧ w'.cell? ⟨b, off + k * 2, none⟩ = some (.int .i64 x) ∧ w'.cell? ⟨b, off + k * 2 + 1, none⟩ = some (.int .i64 y)) := Lib.hid (C'.out.mono fun e w' ⟨he, hb⟩ => ⟨he, hb, (hb.cell (by exact hbB)).trans c1, (hb.cell (by exact hbB)).trans c2⟩)
    by_cases hno : x = d ∨ l.length = 20
    · rw [coreCutL_no hH hx hno]
      rw [hln.out] at hno
      clear C C' hH hx hxd hdy hcB c1 c2
      rcases (show x = d ∨ (x ≠ d ∧ n = 20) by omega) with rfl | ⟨hne, rfl⟩
      · go_enter Tryz.func33, Tryz.ntmps33
        go_wp2_with (go_at_call 63; refine C2.out.mono ?_; rintro e w1 ⟨rfl, hb, c1, c2⟩)
        go_ret2
        exact retPc_no hb
      · have g1 : (x == d) = false := by simp [hne]
        go_enter Tryz.func33, Tryz.ntmps33
        go_wp2_with (go_at_call 63; refine C2.out.mono ?_; rintro e w1 ⟨rfl, hb, c1, c2⟩)
        go_ret2
        exact retPc_no hb
    · rw [coreCutL_yes hH hx hno]
      simp only [Option.getD_some, Option.isSome_some]
      rw [hln.out] at hno
      have hne : x ≠ d := fun e => hno (.inl e)
      have hn20 : n ≠ 20 := fun e => hno (.inr e)
      have g1 : (x == d) = false := by simp [hne]
      have g2 : ((n : Int) == 20) = false := by simp; omega
      have HOW := Lib.hid hO
      have HX := Lib.hid hx
      have HK := Lib.hid hk
      have e1 : IntKind.i64.wrap ((k : Int) + 1) = (k : Int) + 1 := IntWalk.i64_in _ ⟨by omega, by omega⟩
      clear C C' hH hx hxd hdy hcB c1 c2 hno hO h
      go_enter Tryz.func33, Tryz.ntmps33
      go_wp2_with (go_at_call 63; refine C2.out.mono ?_; rintro e w1 ⟨rfl, hb, c1, c2⟩)
      have HO1 := Lib.hid (HOW.out.below hb (Nat.le_refl _))
      have hb1 : b < w1.heap.size := Nat.lt_of_lt_of_le hbB hb.size
      have HB1 := Lib.hid hb
      have hz1 := hb.size
      clear hb
      go_region_held3 (fun w' => w'.cell? ⟨b, off + k * 2 + 1, none⟩ = some (.int .i64 y)) (first | (go_keep; done) | (exact K4) | (exact K2)) (first
        | (go_at_call 65; refine (cloneP_any base (some ⟨b, off, none⟩) n c l w1.drew HO1.out.drew hn).mono ?_; rintro e w2 ⟨A2, c2', rfl, o2, b2⟩; have S2 : Below w1.heap.size w1 w2 := ((Below.refl w1.heap.size w1).drew).trans b2; have z2 := S2.size; have K2 := (S2.cell (p := ⟨b, off + k * 2 + 1, none⟩) (by exact hb1)).trans c2; obtain ⟨G2, cG2, eG2, hG2a, hG2b, hG2c⟩ := o2.head (by have := HK.out; omega); injection eG2 with eG2 _ eC2; subst eG2; clear eC2 hG2c cG2)
        | (go_at_call 65; refine (cloneP_any base (some ⟨b, off, none⟩) n c l (w1.drew.alloc (.cells #[.int .i64 d, .int .i64 y] 69)) (HO1.out.drew.alloc _) hn).mono ?_; rintro e v2 ⟨A2, c2', rfl, o2, b2⟩; have S2 : Below w1.heap.size w1 v2 := (((Below.refl w1.heap.size w1).drew).alloc (Nat.le_refl _) _).trans (b2.mono (by simp)); have z2 := S2.size; have K2 := (S2.cell (p := ⟨b, off + k * 2 + 1, none⟩) (by exact hb1)).trans c2; have hL2 := (b2.block w1.heap.size (by simp)).trans (MapKept.heap_alloc w1.drew (.cells #[.int .i64 d, .int .i64 y] 69)).1; obtain ⟨G2, cG2, eG2, hG2a, hG2b, hG2c⟩ := o2.head (by have := HK.out; omega); injection eG2 with eG2 _ eC2; subst eG2; clear eC2 hG2c cG2)
        | (go_at_call 64; with_reducible refine (insertP_at w1.heap.size G2 n c2' k l d y w2.heap.size (w2.alloc (.cells #[.int .i64 d, .int .i64 y] 69)) (o2.alloc _) HK.out hn (MapKept.heap_alloc w2 _).1 (by omega) (by simp; omega)).mono ?_; rintro e w4 ⟨g4, c4, rfl, o4, gr4⟩; have B4 : Below w1.heap.size w1 w4 := (S2.alloc z2 _).grown gr4 (by simp; omega) (fun j hj => by injection hj with hj; simp at hG2a; omega); have K4 := (B4.cell (p := ⟨b, off + k * 2 + 1, none⟩) (by exact hb1)).trans c2)
        | (go_at_call 64; with_reducible refine (insertP_at w1.heap.size G2 n c2' k l d y w1.heap.size v2 (o2.less (by simp)) HK.out hn hL2 (by simp at hG2a; omega) z2).mono ?_; rintro e w4 ⟨g4, c4, rfl, o4, gr4⟩; have B4 : Below w1.heap.size w1 w4 := S2.grown gr4 z2 (fun j hj => by injection hj with hj; simp at hG2a; omega); have K4 := (B4.cell (p := ⟨b, off + k * 2 + 1, none⟩) (by exact hb1)).trans c2))
      all_goals
        have HB4 := Lib.hid (HB1.out.trans (B4.mono hz1))
        have f1 := o4.2.frozenAt (k * 2 + 1)
        have S := Lib.hid (o4.set1 (cut_get HX.out) d)
        obtain ⟨G4, cG4, eG4, hG4a, hG4b, hG4c⟩ := o4.head (by omega)
        injection eG4 with eG4 _ eC4
        injection eG4 with eG4
        injection eG4 with eG4 _ _
        subst eG4; subst eC4
        obtain ⟨q0, q1⟩ := o4.pairAt (cut_get HX.out)
        have HG4 := Lib.hid hG4a
        have kn1 : (k : Int) < (n : Int) + 1 := by omega
        have hS := Lib.hid (cut_set (d := d) HX.out)
        clear o4 gr4 B4 K4 K2 S2 o2 b2 c1 c2
        go_wp2
        go_ret2
        refine retPc_yes rfl ?_ (HB4.out.setCell (p := ⟨g4, k * 2 + 1, none⟩) (by have := HG4.out; simp; omega) _)
        rw [← hS.out]
        exact S.out.less hz1
end Go.Proofs.YtefadlbfkhndfaaGreatDoor
