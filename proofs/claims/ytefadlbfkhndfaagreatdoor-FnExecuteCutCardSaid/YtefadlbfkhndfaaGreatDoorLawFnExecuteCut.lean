/-
  The walk of the law FnExecuteCut.
-/
import Derived.Test.YtefadlbfkhndfaaGreatDoorLinesPA
import Derived.Test.YtefadlbfkhndfaaGreatDoorLinesLA
import Derived.Test.YtefadlbfkhndfaaGreatDoorGD
import Derived.Test.YtefadlbfkhndfaaGreatDoorGC
import Derived.Test.YtefadlbfkhndfaaGreatDoorGN
import Derived.Test.YtefadlbfkhndfaaGreatDoorDrawCC
import Derived.Test.YtefadlbfkhndfaaGreatDoorGO
import Derived.Test.YtefadlbfkhndfaaGreatDoorLinesCut
namespace Go.Proofs.YtefadlbfkhndfaaGreatDoor
open Go.RowKit
set_option linter.unusedSimpArgs false
set_option linter.unusedVariables false

set_option maxRecDepth 100000 in
set_option maxHeartbeats 4000000 in
theorem walk_FnExecuteCut (w : World) (A : Option Addr) (n c : Nat) (l : List Int) (h : Arr BB 1 w w.heap.size A n l) (hby : ∀ x ∈ l, 0 ≤ x ∧ x ≤ 255) (hc : n ≤ c) (hT : Tab w) (hE : Errs w) :
    Calls Tryz.prog 12 #[.slice A n c] w fun e w' => e = .returned (.bool true) ∧ Below w.heap.size w w' := by
  have C := Lib.hid (DrawCoreCut_any A n c l w h hby hc)
  have HT := Lib.hid hT
  have HE := Lib.hid hE
  clear hby h hT hE
  by_cases hb : 1048576 < n
  · go_enter Tryz.func12, Tryz.ntmps12
    go_wp2_with fail
    go_ret
    exact ⟨rfl, Below.refl _ _⟩
  go_enter Tryz.func12, Tryz.ntmps12
  go_wp2_with fail
  refine C.out.mono ?_
  rintro e w1 ⟨A1, n1, c1, L, x, rfl, o1, hn1, b1⟩
  clear C
  have OW := Lib.hid o1
  have HT1 := Lib.hid (HT.out.below b1 (Nat.le_refl _))
  have HE1 := Lib.hid (HE.out.below b1 (Nat.le_refl _))
  have hL1 := Lib.hid o1.1
  have AR := Lib.hid (fun W (hW : Below w1.heap.size w1 W) => (OW.out.below hW (Nat.le_refl _)).arr PP_length)
  have hcap : n1 ≤ c1 := by
    obtain ⟨_, _, e, hcc, _⟩ := o1.form
    injection e with e1 e2 e3
    omega
  clear o1
  have KI0 := fun W (hW : Below w1.heap.size w1 W) => implCoreCut_any w.heap.size A1 n1 c1 L x W (OW.out.below hW (Nat.le_refl _)) (by omega)
  have KS0 := fun W h => specCoreCut_any A1 n1 c1 L x W h (by omega) hcap
  obtain ⟨o, ho⟩ : ∃ o, o = coreCutL L x := ⟨_, rfl⟩
  rw [← ho] at KI0 KS0
  cases o with
  | none =>
    simp only [Option.getD_none, Option.isSome_none] at KI0 KS0
    have KI := Lib.hid KI0
    have KS := Lib.hid KS0
    clear KI0 KS0 ho
    go_wp2_with (first
      | (go_at_call 33; refine (KI.out _ (Below.refl _ _)).mono ?_; rintro e w2 ⟨A2, n2, c2, rfl, o2, b2⟩; have S2 : Below w1.heap.size w1 w2 := b2)
      | (go_at_call 34; refine (KS.out _ (AR.out _ S2)).mono ?_; rintro e w3 ⟨A3, n3, c3, rfl, o3, b3⟩; have S3 := S2.trans (b3.mono S2.size); have a2 := (o2.below b3 (Nat.le_refl _)).arr PP_length; have a3 := o3.arr PP_length; have h2 := o2.1)
      | (go_at_call 35; refine (sameCore_yes a2 a3 (by rw [← h2]; simp)).mono ?_; rintro e w4 ⟨rfl, b4⟩; have S4 := S3.trans (b4.mono S3.size); have a2' := ((o2.below b3 (Nat.le_refl _)).below b4 (Nat.le_refl _)).arr PP_length; have a3' := (o3.below b4 (Nat.le_refl _)).arr PP_length)
      | (go_at_call 35; refine (sameCore_yes a2' a3' (by rw [← h2]; simp)).mono ?_; rintro e w5 ⟨rfl, b5⟩; have S5 := S4.trans (b5.mono S4.size)))
    go_ret
    exact ⟨ret_bool (by simp), b1.trans (S5.mono b1.size)⟩
  | some L' =>
    have hcut : coreCutL L x = some L' := ho.symm
    have hok' : coreB L' = true := coreCutL_ok hcut
    obtain ⟨hB, hx0, hx1⟩ : coreB L = true ∧ 0 ≤ x ∧ x ≤ 30000 := coreCutL_bd hcut
    obtain ⟨d, rfl⟩ : ∃ d : Nat, x = d := ⟨x.toNat, by omega⟩
    have hd : d ≤ 30000 := by omega
    have hdd := dec6 (u := d) (by omega)
    have hX := exec_cut hB hd hcut
    have h20' := ((coreB_iff L').1 hok').2
    simp only [Option.getD_some, Option.isSome_some] at KI0 KS0
    have KI := Lib.hid KI0
    have KS := Lib.hid KS0
    rw [show L.length = n1 from hL1.out] at hX
    have hlen := pieces_len hB
    have hT0 : linesT (L.map pieceLine) ++ ((wCut ++ 32 :: dec d) ++ 10 :: (wCore ++ [10])) = linesT (L.map pieceLine ++ [wCut ++ 32 :: dec d, wCore]) := by rw [linesT_append]; simp [linesT]
    have EX0 := fun W hW hV => execute_lines (L.map pieceLine ++ [wCut ++ 32 :: dec d, wCore]) (pieces_no10 L _ (by intro w hw; simp only [List.mem_cons, List.mem_nil_iff, or_false] at hw; rcases hw with rfl | rfl; exact no10_one (by decide) d; decide)) (by rw [← hT0]; simp [wCut, wCore]; omega) (linesA_two hB (by rw [ws_one (by decide) d]; exact lineOk_cutA (s := ⟨L, []⟩) (by omega) hB) (by rw [ws_one (by decide) d, show splitB 32 wCore = [wCore] by decide, line_cut, dig_decB (by omega)]; exact lineOk_coreA (by show (setCore ⟨L, []⟩ (coreCutL L d)).1.core.length ≤ 900; rw [hcut]; show L'.length ≤ 900; have := ((coreB_iff L').1 hok').2; omega))) W hW hV
    rw [← hT0, hX] at EX0
    have PL0 := fun W h => pieceLines_any A1 n1 c1 L W h hB
    have OK0 : ∀ W, Calls Tryz.prog 24 #[.int .i64 ((n1 : Int) + 1)] W fun e w' => e = .returned (.string (tx (okLinesT (n1 + 1)))) ∧ W = w' := fun W => okLines_any (n1 + 1) (by omega) W
    have z0 := okLinesT_len (n1 + 1)
    have z1 := coreT_len L'
    have z3 := endT_len ⟨L', []⟩ (by show L'.length ≤ 10000; omega) (Nat.zero_le _)
    obtain ⟨P0, hP0⟩ : ∃ V, V = tx (linesT (L.map pieceLine)) := ⟨_, rfl⟩
    obtain ⟨M1, hM1⟩ : ∃ V, V = tx (linesT (L.map pieceLine) ++ [99, 117, 116, 32]) := ⟨_, rfl⟩
    have MA1 : ∀ W : World, (Op.stringOp .add P0 (ByteArray.mk #[99, 117, 116, 32])).run Tryz.prog W = .ok (.string M1) W := by rw [hP0, hM1]; exact add_tx _ ([99, 117, 116, 32]) _ (by simp [wCut, wCore]) (by simp [wCut, wCore]; omega)
    obtain ⟨Dd, hDd⟩ : ∃ V, V = tx (dec d) := ⟨_, rfl⟩
    obtain ⟨M2, hM2⟩ : ∃ V, V = tx (linesT (L.map pieceLine) ++ [99, 117, 116, 32] ++ dec d) := ⟨_, rfl⟩
    have MA2 : ∀ W : World, (Op.stringOp .add M1 Dd).run Tryz.prog W = .ok (.string M2) W := by rw [hM1, hM2, hDd]; exact add_tx _ (dec d) _ (by simp [wCut, wCore]) (by simp [wCut, wCore]; omega)
    obtain ⟨M3, hM3⟩ : ∃ V, V = tx (linesT (L.map pieceLine) ++ ((wCut ++ 32 :: dec d) ++ 10 :: (wCore ++ [10]))) := ⟨_, rfl⟩
    have MA3 : ∀ W : World, (Op.stringOp .add M2 (ByteArray.mk #[10, 99, 111, 114, 101, 10])).run Tryz.prog W = .ok (.string M3) W := by rw [hM2, hM3]; exact add_tx _ ([10, 99, 111, 114, 101, 10]) _ (by simp [wCut, wCore]) (by simp [wCut, wCore]; omega)
    obtain ⟨Q0, hQ0⟩ : ∃ V, V = tx (okLinesT (n1 + 1)) := ⟨_, rfl⟩
    obtain ⟨CTx, hCTx⟩ : ∃ V, V = tx (coreT L') := ⟨_, rfl⟩
    obtain ⟨R1, hR1⟩ : ∃ V, V = tx (okLinesT (n1 + 1) ++ coreT L') := ⟨_, rfl⟩
    have RA1 : ∀ W : World, (Op.stringOp .add Q0 CTx).run Tryz.prog W = .ok (.string R1) W := by rw [hQ0, hR1, hCTx]; exact add_tx _ (coreT L') _ (by simp) (by simp; omega)
    obtain ⟨R2, hR2⟩ : ∃ V, V = tx (okLinesT (n1 + 1) ++ coreT L' ++ [10]) := ⟨_, rfl⟩
    have RA2 : ∀ W : World, (Op.stringOp .add R1 (ByteArray.mk #[10])).run Tryz.prog W = .ok (.string R2) W := by rw [hR1, hR2]; exact add_tx _ ([10]) _ (by simp) (by simp; omega)
    obtain ⟨EE, hEE⟩ : ∃ V, V = tx (endT ⟨L', []⟩) := ⟨_, rfl⟩
    obtain ⟨R3, hR3⟩ : ∃ V, V = tx (okLinesT (n1 + 1) ++ (coreT L' ++ [10]) ++ endT ⟨L', []⟩) := ⟨_, rfl⟩
    have RA3 : ∀ W : World, (Op.stringOp .add R2 EE).run Tryz.prog W = .ok (.string R3) W := by rw [hR2, hR3, hEE]; exact add_tx _ (endT ⟨L', []⟩) _ (by simp) (by simp; omega)
    have CT0 := fun A2 n2 c2 W (h : Arr PP 2 W W.heap.size A2 n2 L') hW => implCoreText_any A2 n2 c2 L' W h (by rw [← h.1]; omega) hW
    have EL0 := fun n2 (h : L'.length = n2) W => endLine_any n2 0 ⟨L', []⟩ h rfl (by omega) (by omega) W
    rw [← hP0] at PL0
    rw [← hM3, ← hR3] at EX0
    rw [← hQ0] at OK0
    rw [← hCTx] at CT0
    rw [← hEE] at EL0
    have PL := Lib.hid PL0
    have EX := Lib.hid EX0
    have OK := Lib.hid OK0
    have CT := Lib.hid CT0
    have EL := Lib.hid EL0
    have G00 : ∀ W, Calls Tryz.prog 28 #[.int .i64 d] W fun e w' => e = .returned (.string (tx (dec d))) ∧ Below W.heap.size W w' := fun W => digits_any d W (by omega)
    rw [← hDd] at G00
    have G0 := Lib.hid G00
    clear PL0 EX0 OK0 CT0 EL0 KI0 KS0 hP0 hM1 hDd hM2 hM3 hQ0 hCTx hR1 hR2 hEE hR3 z0 z1 z3 hlen hT0 hX hB hok' ho G00 hcut hx0 hx1 hd hdd
    have H20 := Lib.hid h20'
    clear h20'
    go_wp2_with (first
      | (go_at_call 33; refine (KI.out _ (Below.refl _ _)).mono ?_; rintro e w2 ⟨A2, n2, c2, rfl, o2, b2⟩; have S2 : Below w1.heap.size w1 w2 := b2)
      | (go_at_call 34; refine (KS.out _ (AR.out _ S2)).mono ?_; rintro e w3 ⟨A3, n3, c3, rfl, o3, b3⟩; have S3 := S2.trans (b3.mono S2.size); have a2 := (o2.below b3 (Nat.le_refl _)).arr PP_length; have a3 := o3.arr PP_length; have H2 := Lib.hid o2.1; have HO2 := Lib.hid (o2.below b3 (Nat.le_refl _)))
      | (go_at_call 35; refine (sameCore_yes a2 a3 (by rw [← H2.out]; have := H20.out; omega)).mono ?_; rintro e w4 ⟨rfl, b4⟩; have S4 := S3.trans (b4.mono S3.size); have HO4 := Lib.hid (HO2.out.below b4 (Nat.le_refl _)))
      | (go_at_call 36; refine (PL.out _ (AR.out _ S4)).mono ?_; rintro e w5 ⟨rfl, b5⟩; have S5 := S4.trans (b5.mono S4.size); have HO5 := Lib.hid (HO4.out.below b5 (Nat.le_refl _)))
      | (go_at_call 28; refine (G0.out _).mono ?_; rintro e w6 ⟨rfl, b6⟩; have S6 := S5.trans (b6.mono S5.size); have HO6 := Lib.hid (HO5.out.below b6 (Nat.le_refl _)))
      | (go_at_call 15; refine (EX.out _ (HT1.out.below S6 (Nat.le_refl _)) (HE1.out.below S6 (Nat.le_refl _))).mono ?_; rintro e w7 ⟨rfl, b7⟩; have S7 := S6.trans (b7.mono S6.size); have HO7 := Lib.hid (HO6.out.below b7 (Nat.le_refl _)))
      | (go_at_call 24; refine (OK.out _).mono ?_; rintro e w' ⟨rfl, rfl⟩)
      | (go_at_call 37; refine (CT.out _ _ _ _ (HO7.out.arr PP_length) (HT1.out.below S7 (Nat.le_refl _))).mono ?_; rintro e w8 ⟨rfl, b8⟩; have S8 := S7.trans (b8.mono S7.size))
      | (go_at_call 23; refine (EL.out _ H2.out _).mono ?_; rintro e w9 ⟨rfl, b9⟩; have S9 := S8.trans (b9.mono S8.size)))
    go_ret
    exact ⟨ret_bool (by simp), b1.trans (S9.mono b1.size)⟩
end Go.Proofs.YtefadlbfkhndfaaGreatDoor
