/-
  The walk of the law FnExecuteJoin.
-/
import Derived.Test.YtefadlbfkhndfaaGreatDoorLinesPA
import Derived.Test.YtefadlbfkhndfaaGreatDoorLinesLA
import Derived.Test.YtefadlbfkhndfaaGreatDoorGD
import Derived.Test.YtefadlbfkhndfaaGreatDoorGC
import Derived.Test.YtefadlbfkhndfaaGreatDoorSameCore
import Derived.Test.YtefadlbfkhndfaaGreatDoorDrawCJ
import Derived.Test.YtefadlbfkhndfaaGreatDoorSpecCoreCut
import Derived.Test.YtefadlbfkhndfaaGreatDoorSpecJoin
import Derived.Test.YtefadlbfkhndfaaGreatDoorGJ
namespace Go.Proofs.YtefadlbfkhndfaaGreatDoor
open Go.RowKit
set_option linter.unusedSimpArgs false
set_option linter.unusedVariables false

set_option maxRecDepth 100000 in
set_option maxHeartbeats 4000000 in
theorem walk_FnExecuteJoin (w : World) (A : Option Addr) (n c : Nat) (l : List Int) (h : Arr BB 1 w w.heap.size A n l) (hby : ∀ x ∈ l, 0 ≤ x ∧ x ≤ 255) (hc : n ≤ c) (hT : Tab w) (hE : Errs w) :
    Calls Tryz.prog 13 #[.slice A n c] w fun e w' => e = .returned (.bool true) ∧ Below w.heap.size w w' := by
  have C := Lib.hid (DrawCoreJoin_any A n c l w h hby hc)
  have HT := Lib.hid hT
  have HE := Lib.hid hE
  clear hby h hT hE
  by_cases hb : 1048576 < n
  · go_enter Tryz.func13, Tryz.ntmps13
    go_wp2_with fail
    go_ret
    exact ⟨rfl, Below.refl _ _⟩
  go_enter Tryz.func13, Tryz.ntmps13
  go_wp2_with fail
  refine C.out.mono ?_
  rintro e w1 ⟨A1, n1, c1, L, rfl, o1, hn1, b1⟩
  clear C
  have OW := Lib.hid o1
  have HT1 := Lib.hid (HT.out.below b1 (Nat.le_refl _))
  have HE1 := Lib.hid (HE.out.below b1 (Nat.le_refl _))
  have hL1 := Lib.hid o1.1
  have AR := Lib.hid (fun W (hW : Below w1.heap.size w1 W) => (OW.out.below hW (Nat.le_refl _)).arr PP_length)
  have hcap : n1 ≤ c1 := by
    obtain ⟨_, _, e, hcc, _⟩ := o1.form
    injection e with e1 e2 e3
    omega
  clear o1
  have KI0 := fun W h => implJoin_any A1 n1 c1 L W h (by omega)
  have KS0 := fun W h => specCoreJoin_any A1 n1 c1 L W h (by omega)
  obtain ⟨o, ho⟩ : ∃ o, o = (if coreB L = true then some (joinL L) else none) := ⟨_, rfl⟩
  have hoL : joinR L = o.getD [] := by rw [ho]; unfold joinR; cases coreB L <;> rfl
  have hoB : coreB L = o.isSome := by rw [ho]; cases coreB L <;> rfl
  rw [hoL, hoB] at KI0 KS0
  cases o with
  | none =>
    simp only [Option.getD_none, Option.isSome_none] at KI0 KS0
    have KI := Lib.hid KI0
    have KS := Lib.hid KS0
    clear KI0 KS0 ho hoL hoB
    go_wp2_with (first
      | (go_at_call 39; refine (KI.out _ (AR.out _ (Below.refl _ _))).mono ?_; rintro e w2 ⟨A2, n2, c2, rfl, o2, b2⟩; have S2 : Below w1.heap.size w1 w2 := b2)
      | (go_at_call 40; refine (KS.out _ (AR.out _ S2)).mono ?_; rintro e w3 ⟨A3, n3, c3, rfl, o3, b3⟩; have S3 := S2.trans (b3.mono S2.size); have a2 := (o2.below b3 (Nat.le_refl _)).arr PP_length; have a3 := o3.arr PP_length; have h2 := o2.1)
      | (go_at_call 35; refine (sameCore_yes a2 a3 (by rw [← h2]; simp)).mono ?_; rintro e w4 ⟨rfl, b4⟩; have S4 := S3.trans (b4.mono S3.size); have a2' := ((o2.below b3 (Nat.le_refl _)).below b4 (Nat.le_refl _)).arr PP_length; have a3' := (o3.below b4 (Nat.le_refl _)).arr PP_length)
      | (go_at_call 35; refine (sameCore_yes a2' a3' (by rw [← h2]; simp)).mono ?_; rintro e w5 ⟨rfl, b5⟩; have S5 := S4.trans (b5.mono S4.size)))
    go_ret
    exact ⟨ret_bool (by simp), b1.trans (S5.mono b1.size)⟩
  | some L' =>
    have hB : coreB L = true := by rw [hoB]; rfl
    have hL' : L' = joinL L := by rw [hB, if_pos rfl] at ho; injection ho
    have hX := exec_join hB
    rw [← hL'] at hX
    have hok' : coreB L' = true := by rw [hL']; exact joinL_ok hB
    have h20' := ((coreB_iff L').1 hok').2
    simp only [Option.getD_some, Option.isSome_some] at KI0 KS0
    have KI := Lib.hid KI0
    have KS := Lib.hid KS0
    rw [show L.length = n1 from hL1.out] at hX
    have hlen := pieces_len hB
    have hT0 : linesT (L.map pieceLine) ++ (wJoin ++ 10 :: (wCore ++ [10])) = linesT (L.map pieceLine ++ [wJoin, wCore]) := by rw [linesT_append]; simp [linesT]
    have EX0 := fun W hW hV => execute_lines (L.map pieceLine ++ [wJoin, wCore]) (pieces_no10 L _ (by decide)) (by rw [← hT0]; simp [wJoin, wCore]; omega) (linesA_two hB (by rw [show splitB 32 wJoin = [wJoin] by decide]; exact lineOk_joinA (s := ⟨L, []⟩) hB) (by rw [show splitB 32 wCore = [wCore] by decide, show splitB 32 wJoin = [wJoin] by decide, line_join]; exact lineOk_coreA (by rw [if_pos (show coreB (St.core ⟨L, []⟩) = true from hB)]; show (joinL L).length ≤ 900; rw [← hL']; have := ((coreB_iff L').1 hok').2; omega))) W hW hV
    rw [← hT0, hX] at EX0
    have PL0 := fun W h => pieceLines_any A1 n1 c1 L W h hB
    have OK0 : ∀ W, Calls Tryz.prog 24 #[.int .i64 ((n1 : Int) + 1)] W fun e w' => e = .returned (.string (tx (okLinesT (n1 + 1)))) ∧ W = w' := fun W => okLines_any (n1 + 1) (by omega) W
    have z0 := okLinesT_len (n1 + 1)
    have z1 := coreT_len L'
    have z3 := endT_len ⟨L', []⟩ (by show L'.length ≤ 10000; omega) (Nat.zero_le _)
    obtain ⟨P0, hP0⟩ : ∃ V, V = tx (linesT (L.map pieceLine)) := ⟨_, rfl⟩
    obtain ⟨M1, hM1⟩ : ∃ V, V = tx (linesT (L.map pieceLine) ++ (wJoin ++ 10 :: (wCore ++ [10]))) := ⟨_, rfl⟩
    have MA1 : ∀ W : World, (Op.stringOp .add P0 (ByteArray.mk #[106, 111, 105, 110, 10, 99, 111, 114, 101, 10])).run Tryz.prog W = .ok (.string M1) W := by rw [hP0, hM1]; exact add_tx _ ([106, 111, 105, 110, 10, 99, 111, 114, 101, 10]) _ (by simp [wJoin, wCore]) (by simp [wJoin, wCore]; omega)
    obtain ⟨Q0, hQ0⟩ : ∃ V, V = tx (okLinesT (n1 + 1)) := ⟨_, rfl⟩
    obtain ⟨CTx, hCTx⟩ : ∃ V, V = tx (coreT L') := ⟨_, rfl⟩
    obtain ⟨R1, hR1⟩ : ∃ V, V = tx (okLinesT (n1 + 1) ++ coreT L') := ⟨_, rfl⟩
    have RA1 : ∀ W : World, (Op.stringOp .add Q0 CTx).run Tryz.prog W = .ok (.string R1) W := by rw [hQ0, hR1, hCTx]; exact add_tx _ (coreT L') _ (by simp) (by simp; omega)
    obtain ⟨R2, hR2⟩ : ∃ V, V = tx (okLinesT (n1 + 1) ++ coreT L' ++ [10]) := ⟨_, rfl⟩
    have RA2 : ∀ W : World, (Op.stringOp .add R1 (ByteArray.mk #[10])).run Tryz.prog W = .ok (.string R2) W := by rw [hR1, hR2]; exact add_tx _ ([10]) _ (by simp) (by simp; omega)
    obtain ⟨EE, hEE⟩ : ∃ V, V = tx (endT ⟨L', []⟩) := ⟨_, rfl⟩
    obtain ⟨R3, hR3⟩ : ∃ V, V = tx (okLinesT (n1 + 1) ++ (coreT L' ++ [10]) ++ endT ⟨L', []⟩) := ⟨_, rfl⟩
    have RA3 : ∀ W : World, (Op.stringOp .add R2 EE).run Tryz.prog W = .ok (.string R3) W := by rw [hR2, hR3, hEE]; exact add_tx _ (endT ⟨L', []⟩) _ (by simp) (by simp; omega)
    have CT0 := fun A2 n2 c2 W (h : Arr PP 2 W W.heap.size A2 n2 L') hW => implCoreText_any A2 n2 c2 L' W h (by rw [← h.1]; omega) hW
    have EL0 := fun n2 (h : L'.length = n2) W => endLine_any n2 0 ⟨L', []⟩ h rfl (by omega) (by omega) W
    rw [← hP0] at PL0
    rw [← hM1, ← hR3] at EX0
    rw [← hQ0] at OK0
    rw [← hCTx] at CT0
    rw [← hEE] at EL0
    have PL := Lib.hid PL0
    have EX := Lib.hid EX0
    have OK := Lib.hid OK0
    have CT := Lib.hid CT0
    have EL := Lib.hid EL0
    clear PL0 EX0 OK0 CT0 EL0 KI0 KS0 hP0 hM1 hQ0 hCTx hR1 hR2 hEE hR3 z0 z1 z3 hlen hT0 hX hB hok' ho hoL hoB hL'
    have H20 := Lib.hid h20'
    clear h20'
    go_wp2_with (first
      | (go_at_call 39; refine (KI.out _ (AR.out _ (Below.refl _ _))).mono ?_; rintro e w2 ⟨A2, n2, c2, rfl, o2, b2⟩; have S2 : Below w1.heap.size w1 w2 := b2)
      | (go_at_call 40; refine (KS.out _ (AR.out _ S2)).mono ?_; rintro e w3 ⟨A3, n3, c3, rfl, o3, b3⟩; have S3 := S2.trans (b3.mono S2.size); have a2 := (o2.below b3 (Nat.le_refl _)).arr PP_length; have a3 := o3.arr PP_length; have H2 := Lib.hid o2.1; have HO2 := Lib.hid (o2.below b3 (Nat.le_refl _)))
      | (go_at_call 35; refine (sameCore_yes a2 a3 (by rw [← H2.out]; have := H20.out; omega)).mono ?_; rintro e w4 ⟨rfl, b4⟩; have S4 := S3.trans (b4.mono S3.size); have HO4 := Lib.hid (HO2.out.below b4 (Nat.le_refl _)))
      | (go_at_call 36; refine (PL.out _ (AR.out _ S4)).mono ?_; rintro e w5 ⟨rfl, b5⟩; have S5 := S4.trans (b5.mono S4.size); have HO5 := Lib.hid (HO4.out.below b5 (Nat.le_refl _)))
      | (go_at_call 15; refine (EX.out _ (HT1.out.below S5 (Nat.le_refl _)) (HE1.out.below S5 (Nat.le_refl _))).mono ?_; rintro e w7 ⟨rfl, b7⟩; have S7 := S5.trans (b7.mono S5.size); have HO7 := Lib.hid (HO5.out.below b7 (Nat.le_refl _)))
      | (go_at_call 24; refine (OK.out _).mono ?_; rintro e w' ⟨rfl, rfl⟩)
      | (go_at_call 37; refine (CT.out _ _ _ _ (HO7.out.arr PP_length) (HT1.out.below S7 (Nat.le_refl _))).mono ?_; rintro e w8 ⟨rfl, b8⟩; have S8 := S7.trans (b8.mono S7.size))
      | (go_at_call 23; refine (EL.out _ H2.out _).mono ?_; rintro e w9 ⟨rfl, b9⟩; have S9 := S8.trans (b9.mono S8.size)))
    go_ret
    exact ⟨ret_bool (by simp), b1.trans (S9.mono b1.size)⟩
end Go.Proofs.YtefadlbfkhndfaaGreatDoor
