/-
  The walk of the law FnExecuteCore.
-/
import Derived.Test.YtefadlbfkhndfaaDoorExecP
import Derived.Test.YtefadlbfkhndfaaDoorOkLines
import Derived.Test.YtefadlbfkhndfaaDoorEndLine
import Derived.Test.YtefadlbfkhndfaaDoorDrawCoreLen
import Derived.Test.YtefadlbfkhndfaaDoorLibS
import Derived.Test.YtefadlbfkhndfaaDoorPlainT
namespace Go.Proofs.YtefadlbfkhndfaaDoor
open Go.RowKit
set_option linter.unusedSimpArgs false
set_option linter.unusedVariables false

theorem lineOk_piece {s : St} {x y : Nat} (hx : x ≤ 30000) (hy : y ≤ 30000) (hl : s.core.length ≤ 900) (hC : coreB (s.core ++ [((x : Int), (y : Int))]) = true) : LineOk s [wPiece, dec x, dec y] := by
  have e : lineX s [wPiece, dec x, dec y] = ({ s with core := s.core ++ [((x : Int), (y : Int))] }, okT) := by
    rw [line_piece, dig_decB (by omega), dig_decB (by omega)]
    unfold addPiece
    rw [if_pos hC]
  unfold LineOk
  rw [e]
  refine ⟨by show okT.length ≤ 1000; decide, fun w g k hs hT hgk hk => ?_⟩
  refine (exec_piece_yes g k x y s (by omega) (by omega) w hs hl (Array.getElem?_eq_some_iff.1 hk).1 ((Lib.cell_of_heap hk 0).trans rfl) ((Lib.cell_of_heap hk 1).trans rfl) ((Lib.cell_of_heap hk 2).trans rfl) hC).mono ?_
  rintro e w' ⟨rfl, h1, h2⟩
  exact ⟨_, _, rfl, rfl, h1, h2⟩
theorem lineOk_core {s : St} (hl : s.core.length ≤ 900) : LineOk s [wCore] := by
  unfold LineOk
  rw [line_core]
  refine ⟨by have := coreT_len s.core; show (coreT s.core).length ≤ 1000; omega, fun w g k hs hT hgk hk => ?_⟩
  refine (exec_core_any g k s w hs (by omega) hT (Array.getElem?_eq_some_iff.1 hk).1 ((Lib.cell_of_heap hk 0).trans rfl)).mono ?_
  rintro e w' ⟨rfl, b⟩
  exact ⟨_, _, rfl, rfl, hs.below b (Nat.le_refl _), grows2 b _⟩
theorem lineOk_length {s : St} {u : Nat} (hl : s.core.length ≤ 900) (hu : coreLen s.core = (u : Int)) (hu' : u ≤ 10000000) : LineOk s [wLength] := by
  unfold LineOk
  rw [line_length, hu]
  refine ⟨by have h : (dec u).length ≤ 8 := dec_len 7 u (by omega); show (dec u).length ≤ 1000; omega, fun w g k hs hT hgk hk => ?_⟩
  refine (exec_length_any g k u s w hs (by omega) hu hu' hT (Array.getElem?_eq_some_iff.1 hk).1 ((Lib.cell_of_heap hk 0).trans rfl)).mono ?_
  rintro e w' ⟨rfl, b⟩
  exact ⟨_, _, rfl, rfl, hs.below b (Nat.le_refl _), grows2 b _⟩
/-- The lines that build a core are lines that execute is known at. -/
theorem lines_pieces {l : List Pc} (h : coreB l = true) (R : List (List UInt8)) : ∀ j x, j < l.length → (l.map pieceLine ++ R)[j]? = some x → LineOk (runX st0 ((l.map pieceLine ++ R).take j)).1 (splitB 32 x) := by
  intro j x hj hx
  obtain ⟨hF, h20⟩ := (coreB_iff l).1 h
  have hl : l[j]? = some l[j] := List.getElem?_eq_getElem hj
  rw [List.getElem?_append_left (by rw [List.length_map]; exact hj), List.getElem?_map, hl] at hx
  injection hx with hx
  subst hx
  rw [List.take_append_of_le_length (by rw [List.length_map]; omega), ← List.map_take, run_pieces (coreB_take h j), pieceLine_words]
  have hm := coreFrom_mem hF _ (List.getElem_mem hj)
  have hc := coreB_take h (j + 1)
  rw [take_snoc hl] at hc
  refine lineOk_piece (by omega) (by omega) (by show (l.take j).length ≤ 900; rw [List.length_take]; omega) ?_
  rw [show (((l[j].1.toNat : Int)), ((l[j].2.toNat : Int))) = l[j] by rw [Int.toNat_of_nonneg (by omega), Int.toNat_of_nonneg (by omega)]]
  exact hc
theorem lines_core {l : List Pc} {u : Nat} (h : coreB l = true) (hu : coreLen l = (u : Int)) (hu' : u ≤ 30000) : ∀ j x, (l.map pieceLine ++ [wCore, wLength])[j]? = some x → LineOk (runX st0 ((l.map pieceLine ++ [wCore, wLength]).take j)).1 (splitB 32 x) := by
  intro j x hx
  have h20 := ((coreB_iff l).1 h).2
  have e1 : splitB 32 wCore = [wCore] := by decide
  have e2 : splitB 32 wLength = [wLength] := by decide
  by_cases hj : j < l.length
  · exact lines_pieces h _ j x hj hx
  · obtain ⟨i, rfl⟩ : ∃ i, j = l.length + i := ⟨j - l.length, by omega⟩
    rw [List.getElem?_append_right (by rw [List.length_map]; omega), List.length_map, Nat.add_sub_cancel_left] at hx
    match i, hx with
    | 0, hx =>
      injection hx with hx
      subst hx
      rw [List.take_append_of_le_length (by rw [List.length_map]; omega), List.take_of_length_le (by rw [List.length_map]; omega), run_pieces h, e1]
      exact lineOk_core (s := ⟨l, []⟩) (by show l.length ≤ 900; omega)
    | 1, hx =>
      injection hx with hx
      subst hx
      have e3 : (l.map pieceLine ++ [wCore, wLength]).take (l.length + 1) = l.map pieceLine ++ [wCore] := by
        rw [show l.map pieceLine ++ [wCore, wLength] = (l.map pieceLine ++ [wCore]) ++ [wLength] by simp]
        exact List.take_left' (by simp)
      rw [e3, runX_one, run_pieces h, e1, line_core, e2]
      exact lineOk_length (s := ⟨l, []⟩) (by show l.length ≤ 900; omega) hu (by omega)
    | i + 2, hx => simp at hx

set_option maxRecDepth 100000 in
set_option maxHeartbeats 4000000 in
theorem walk_FnExecuteCore (w : World) (A : Option Addr) (n c : Nat) (l : List Int) (h : Arr BB 1 w w.heap.size A n l) (hby : ∀ x ∈ l, 0 ≤ x ∧ x ≤ 255) (hc : n ≤ c) (hT : Tab w) (hE : Errs w) :
    Calls Tryd.prog 4 #[.slice A n c] w fun e w' => e = .returned (.bool true) ∧ Below w.heap.size w w' := by
  have C := Lib.hid (DrawCoreLength_any A n c l w h hby hc)
  have HT := Lib.hid hT
  clear hby h hT hE
  by_cases hb : 1048576 < n
  · go_enter Tryd.func4, Tryd.ntmps4
    go_wp2_with fail
    go_ret
    exact ⟨rfl, Below.refl _ _⟩
  go_enter Tryd.func4, Tryd.ntmps4
  go_wp2_with fail
  refine C.out.mono ?_
  rintro e w1 ⟨A1, n1, c1, L, rfl, o1, hn1, b1⟩
  clear C
  have OW := Lib.hid o1
  have HT1 := Lib.hid (HT.out.below b1 (Nat.le_refl _))
  have hL1 := Lib.hid o1.1
  have KI0 := fun W h => implCoreLength_any A1 n1 c1 L W h (by omega)
  have KS0 := fun W h => specCoreLength_any A1 n1 c1 L W h (by omega)
  have AR := Lib.hid (fun W (hW : Below w1.heap.size w1 W) => (OW.out.below hW (Nat.le_refl _)).arr PP_length)
  clear o1
  cases hB : coreB L with
  | false =>
    have e := coreLen_bad hB
    rw [e] at KI0 KS0
    have KI := Lib.hid KI0
    have KS := Lib.hid KS0
    clear KI0 KS0 e hB
    go_wp2_with (first
      | (go_at_call 13; refine (KI.out _ (AR.out _ (Below.refl _ _))).mono ?_; rintro e w2 ⟨rfl, b2⟩; have S2 : Below w1.heap.size w1 w2 := b2)
      | (go_at_call 14; refine (KS.out _ (AR.out _ S2)).mono ?_; rintro e w3 ⟨rfl, b3⟩; have S3 := S2.trans (b3.mono S2.size)))
    go_ret
    exact ⟨ret_bool (by simp), b1.trans (S3.mono b1.size)⟩
  | true =>
    have hF := ((coreB_iff L).1 hB).1
    have hbd := lenOf_bd' hF
    obtain ⟨u, hu⟩ : ∃ u : Nat, coreLen L = (u : Int) := ⟨(lenOf L).toNat, by rw [coreLen_good hB]; omega⟩
    have hu3 : u ≤ 30000 := by rw [coreLen_good hB] at hu; omega
    rw [hu] at KI0 KS0
    have KI := Lib.hid KI0
    have KS := Lib.hid KS0
    have hX := exec_core hB
    rw [hu, Int.toNat_natCast, show L.length = n1 from hL1.out] at hX
    have hT0 : linesT (L.map pieceLine) ++ (wCore ++ 10 :: (wLength ++ [10])) = linesT (L.map pieceLine ++ [wCore, wLength]) := by rw [linesT_append]; simp [linesT]
    have hno : ∀ w ∈ L.map pieceLine ++ [wCore, wLength], (10 : UInt8) ∉ w := pieces_no10 L _ (by decide)
    have hln := linesX_linesT _ hno
    have hpl := pieces_len hB
    have hrun : (runX st0 (L.map pieceLine ++ [wCore, wLength])).1 = ⟨L, []⟩ := by
      rw [runX_append, run_pieces hB, run_two]
      have e1 : splitB 32 wCore = [wCore] := by decide
      have e2 : splitB 32 wLength = [wLength] := by decide
      rw [e1, e2, line_core, line_length]
    have EX0 := fun W hW => implExecute_any (linesT (L.map pieceLine) ++ (wCore ++ 10 :: (wLength ++ [10]))) (by simp [wCore, wLength]; omega) W hW (by
      rw [hT0, hln]; exact lines_core hB hu hu3) (by rw [hT0, hln, hrun]; exact ⟨by show L.length ≤ 10000; rw [hL1.out]; omega, Nat.zero_le _⟩)
    rw [hX] at EX0
    have PL := Lib.hid (fun W h => pieceLines_any A1 n1 c1 L W h hB)
    have OK := Lib.hid (fun W => okLines_any n1 (by omega) W)
    have CT := Lib.hid (fun W h hW => implCoreText_any A1 n1 c1 L W h (by omega) hW)
    have DG := Lib.hid (fun W => digits_any u W (by omega))
    have EL := Lib.hid (fun W => endLine_any n1 0 ⟨L, []⟩ hL1.out rfl (by omega) (by omega) W)
    have z0 := okLinesT_len n1
    have z1 := coreT_len L
    have z2 : (Lib.decDigits u).length ≤ 8 := dec_len 7 u (by omega)
    have z3 := endT_len ⟨L, []⟩ (by show L.length ≤ 10000; rw [hL1.out]; omega) (Nat.zero_le _)
    have a0 : tx (linesT (L.map pieceLine)) ++ (ByteArray.mk #[99, 111, 114, 101, 10, 108, 101, 110, 103, 116, 104, 10]) = tx (linesT (L.map pieceLine) ++ (wCore ++ 10 :: (wLength ++ [10]))) := by
      show _ ++ tx [99, 111, 114, 101, 10, 108, 101, 110, 103, 116, 104, 10] = _
      rw [tx_add]; rfl
    have A0 := add_at _ _ _ (by rw [tx_size]; show _ + 12 ≤ 1000000; omega) a0
    have a1 : tx (okLinesT n1) ++ tx (coreT L) = tx (okLinesT n1 ++ coreT L) := tx_add _ _
    have AA1 := add_at _ _ _ (by rw [tx_size, tx_size]; omega) a1
    have a2 : tx (okLinesT n1 ++ coreT L) ++ (ByteArray.mk #[10]) = tx (okLinesT n1 ++ coreT L ++ [10]) := tx_add _ [10]
    have AA2 := add_at _ _ _ (by rw [tx_size, List.length_append]; show _ + 1 ≤ 1000000; omega) a2
    have a3 : tx (okLinesT n1 ++ coreT L ++ [10]) ++ tx (Lib.decDigits u) = tx (okLinesT n1 ++ coreT L ++ [10] ++ Lib.decDigits u) := tx_add _ _
    have AA3 := add_at _ _ _ (by rw [tx_size, tx_size]; simp; omega) a3
    have a4 : tx (okLinesT n1 ++ coreT L ++ [10] ++ Lib.decDigits u) ++ (ByteArray.mk #[10]) = tx (okLinesT n1 ++ coreT L ++ [10] ++ Lib.decDigits u ++ [10]) := tx_add _ [10]
    have AA4 := add_at _ _ _ (by rw [tx_size]; simp; show _ + 1 ≤ 1000000; omega) a4
    have a5 : tx (okLinesT n1 ++ coreT L ++ [10] ++ Lib.decDigits u ++ [10]) ++ tx (endT ⟨L, []⟩) = tx (okLinesT n1 ++ (coreT L ++ 10 :: (dec u ++ [10])) ++ endT ⟨L, []⟩) := by
      rw [tx_add]; simp [dec]
    have AA5 := add_at _ _ _ (by rw [tx_size, tx_size]; simp; omega) a5
    obtain ⟨P0, hP0⟩ : ∃ P, P = tx (linesT (L.map pieceLine)) := ⟨_, rfl⟩
    obtain ⟨P1, hP1⟩ : ∃ P, P = tx (linesT (L.map pieceLine) ++ (wCore ++ 10 :: (wLength ++ [10]))) := ⟨_, rfl⟩
    obtain ⟨FN, hFN⟩ : ∃ P, P = tx (okLinesT n1 ++ (coreT L ++ 10 :: (dec u ++ [10])) ++ endT ⟨L, []⟩) := ⟨_, rfl⟩
    obtain ⟨Q5, hQ5⟩ : ∃ P, P = tx (okLinesT n1 ++ coreT L ++ [10] ++ Lib.decDigits u ++ [10]) := ⟨_, rfl⟩
    obtain ⟨Q4, hQ4⟩ : ∃ P, P = tx (okLinesT n1 ++ coreT L ++ [10] ++ Lib.decDigits u) := ⟨_, rfl⟩
    obtain ⟨Q3, hQ3⟩ : ∃ P, P = tx (okLinesT n1 ++ coreT L ++ [10]) := ⟨_, rfl⟩
    obtain ⟨Q2, hQ2⟩ : ∃ P, P = tx (okLinesT n1 ++ coreT L) := ⟨_, rfl⟩
    obtain ⟨Q0, hQ0⟩ : ∃ P, P = tx (okLinesT n1) := ⟨_, rfl⟩
    obtain ⟨Q1, hQ1⟩ : ∃ P, P = tx (coreT L) := ⟨_, rfl⟩
    obtain ⟨DD, hDD⟩ : ∃ P, P = tx (Lib.decDigits u) := ⟨_, rfl⟩
    obtain ⟨EE, hEE⟩ : ∃ P, P = tx (endT ⟨L, []⟩) := ⟨_, rfl⟩
    have EX := Lib.hid EX0
    rw [← hP0] at PL A0
    rw [← hP1] at A0 EX
    rw [← hFN] at EX AA5
    rw [← hQ5] at AA4 AA5
    rw [← hQ4] at AA3 AA4
    rw [← hQ3] at AA2 AA3
    rw [← hQ2] at AA1 AA2
    rw [← hQ0] at OK AA1
    rw [← hQ1] at CT AA1
    rw [← hDD] at DG AA3
    rw [← hEE] at EL AA5
    have hu0 : ¬ ((u : Int) < 0) := by omega
    have hn1' : n1 ≤ 10 := hn1
    clear EX0 KI0 KS0 hX hT0 hno hln hpl hrun z0 z1 z2 z3 a0 a1 a2 a3 a4 a5 hP0 hP1 hFN hQ5 hQ4 hQ3 hQ2 hQ0 hQ1 hDD hEE hF hbd hu hB
    go_wp2_with (first
      | (go_at_call 13; refine (KI.out _ (AR.out _ (Below.refl _ _))).mono ?_; rintro e w2 ⟨rfl, b2⟩; have S2 : Below w1.heap.size w1 w2 := b2)
      | (go_at_call 14; refine (KS.out _ (AR.out _ S2)).mono ?_; rintro e w3 ⟨rfl, b3⟩; have S3 := S2.trans (b3.mono S2.size))
      | (go_at_call 15; refine (PL.out _ (AR.out _ S3)).mono ?_; rintro e w4 ⟨rfl, b4⟩; have S4 := S3.trans (b4.mono S3.size))
      | (go_at_call 9; refine (EX.out _ (HT1.out.below S4 (Nat.le_refl _))).mono ?_; rintro e w5 ⟨rfl, b5⟩; have S5 := S4.trans (b5.mono S4.size))
      | (go_at_call 16; refine (OK.out _).mono ?_; rintro e w' ⟨rfl, rfl⟩)
      | (go_at_call 17; refine (CT.out _ (AR.out _ S5) (HT1.out.below S5 (Nat.le_refl _))).mono ?_; rintro e w6 ⟨rfl, b6⟩; have S6 := S5.trans (b6.mono S5.size))
      | (go_at_call 10; refine (DG.out _).mono ?_; rintro e w7 ⟨rfl, b7⟩; have S7 := S6.trans (b7.mono S6.size))
      | (go_at_call 11; refine (EL.out _).mono ?_; rintro e w8 ⟨rfl, b8⟩; have S8 := S7.trans (b8.mono S7.size)))
    go_ret
    exact ⟨ret_bool (by simp), b1.trans (S8.mono b1.size)⟩
end Go.Proofs.YtefadlbfkhndfaaDoor
