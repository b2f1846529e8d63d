/-
  The walk of the law FnExecuteAge.
-/
import Derived.Test.YtefadlbfkhndfaaGreatDoorLinesLA
import Derived.Test.YtefadlbfkhndfaaGreatDoorLinesA
import Derived.Test.YtefadlbfkhndfaaGreatDoorGD
import Derived.Test.YtefadlbfkhndfaaGreatDoorGE
import Derived.Test.YtefadlbfkhndfaaGreatDoorGK
import Derived.Test.YtefadlbfkhndfaaGreatDoorGC
namespace Go.Proofs.YtefadlbfkhndfaaGreatDoor
open Go.RowKit
set_option linter.unusedSimpArgs false
set_option linter.unusedVariables false

set_option maxRecDepth 100000 in
set_option maxHeartbeats 4000000 in
theorem walk_FnExecuteAge (w : World) (A : Option Addr) (n c : Nat) (l : List Int) (h : Arr BB 1 w w.heap.size A n l) (hby : ∀ x ∈ l, 0 ≤ x ∧ x ≤ 255) (hc : n ≤ c) (hT : Tab w) (hE : Errs w) :
    Calls Tryz.prog 11 #[.slice A n c] w fun e w' => e = .returned (.bool true) ∧ Below w.heap.size w w' := by
  have C := Lib.hid (DrawLayersAge_any A n c l w h hby hc)
  have HT := Lib.hid hT
  have HE := Lib.hid hE
  clear hby h hT hE
  by_cases hb : 1048576 < n
  · go_enter Tryz.func11, Tryz.ntmps11
    go_wp2_with fail
    go_ret
    exact ⟨rfl, Below.refl _ _⟩
  go_enter Tryz.func11, Tryz.ntmps11
  go_wp2_with fail
  refine C.out.mono ?_
  rintro e w1 ⟨A1, n1, c1, L, t, b, rfl, o1, hn1, b1, ht0, ht1⟩
  clear C
  have OW := Lib.hid o1
  have HT1 := Lib.hid (HT.out.below b1 (Nat.le_refl _))
  have HE1 := Lib.hid (HE.out.below b1 (Nat.le_refl _))
  have hL1 := Lib.hid o1.1
  have AR := Lib.hid (fun W (hW : Below w1.heap.size w1 W) => (OW.out.below hW (Nat.le_refl _)).arr LL_length)
  have hcap : n1 ≤ c1 := by
    obtain ⟨_, _, e, hcc, _⟩ := o1.form
    injection e with e1 e2 e3
    omega
  clear o1
  have KI0 := fun W h => implLayersAge_any A1 n1 c1 L t b W h (by omega) ⟨by omega, by omega⟩
  have KS0 := fun W h => specLayersAge_any A1 n1 c1 L t b W h (by omega) ⟨by omega, by omega⟩
  cases hcnt : ageL L t b with
  | none =>
    rw [hcnt] at KI0 KS0
    simp only [oC, oD, Option.isSome_none] at KI0 KS0
    have KI := Lib.hid KI0
    have KS := Lib.hid KS0
    clear KI0 KS0 hcnt
    go_wp2_with (first
      | (go_at_call 30; with_reducible refine (KI.out _ (AR.out _ (Below.refl _ _))).mono ?_; rintro e w2 ⟨rfl, b2⟩; have S2 : Below w1.heap.size w1 w2 := b2)
      | (go_at_call 31; refine (KS.out _ (AR.out _ S2)).mono ?_; rintro e w3 ⟨rfl, b3⟩; have S3 := S2.trans (b3.mono S2.size)))
    go_ret
    exact ⟨ret_bool (by simp), b1.trans (S3.mono b1.size)⟩
  | some r0 =>
    obtain ⟨x, y⟩ := r0
    rw [hcnt] at KI0 KS0
    simp only [oC, oD, Option.isSome_some] at KI0 KS0
    have KI := Lib.hid KI0
    have KS := Lib.hid KS0
    obtain ⟨r, hcn⟩ : ∃ r, countL L 0 b = some r := by
      unfold ageL at hcnt
      split at hcnt
      · cases hh : countL L 0 b with
        | none => rw [hh] at hcnt; cases hcnt
        | some r => exact ⟨r, rfl⟩
      · cases hcnt
    clear hcnt
    have hcnt := hcn
    clear hcn
    obtain ⟨p, q⟩ := r
    have h20 : L.length ≤ 20 := by rw [hL1.out]; omega
    have hcL := hcnt
    unfold countL at hcL
    split at hcL
    case isFalse => cases hcL
    rename_i hLS
    obtain ⟨hB, hS⟩ := hLS
    clear hcL
    have hS' := hS
    simp only [spanB, decide_eq_true_eq] at hS'
    have hbdc := countL_bd L 0 b (by omega)
    rw [hcnt] at hbdc
    simp only [oA, oB] at hbdc
    obtain ⟨v, rfl⟩ : ∃ v : Nat, b = v := ⟨b.toNat, by omega⟩
    have hv : v ≤ 30000 := by omega
    have hp : p ≤ 1000000 := by omega
    have hq : q ≤ 1000000 := by omega
    have KZ0 := fun W h => implLayersAge0_any A1 n1 c1 L (v : Int) W h (by omega)
    rw [hcnt] at KZ0
    simp only [oA, oB, Option.isSome_some] at KZ0
    have hX := exec_age hB h20 hv hcnt
    rw [hL1.out] at hX
    simp only at hX
    have hlen := layers_len hB h20
    have hdv := dec6 (u := v) (by omega)
    have hdp := dec6 (u := p) (by omega)
    have hdq := dec6 (u := q) (by omega)
    have hT0 : linesT (L.map layerLine) ++ ((wAge ++ 32 :: dec v) ++ [10]) = linesT (L.map layerLine ++ [wAge ++ 32 :: dec v]) := by rw [linesT_append]; simp [linesT]
    have EX0 := fun W hW hV => execute_lines (L.map layerLine ++ [wAge ++ 32 :: dec v]) (layers_no10 L _ (by intro w hw; rw [List.mem_singleton.1 hw]; exact no10_one (by decide) v)) (by rw [← hT0]; simp [wAge]; omega)
      (lines_layers1 hB (by rw [ws_one (by decide) v]; exact lineOk_ageA (by omega) (by show L.length ≤ 900; omega))) W hW hV
    rw [← hT0, hX] at EX0
    have PL0 := fun W h => layerLines_any A1 n1 c1 L W h hB (by omega)
    have OK0 := fun W => okLines_any n1 (by omega) W
    have EL0 := fun W => endLine_any 0 n1 ⟨[], L⟩ rfl hL1.out (by omega) (by omega) W
    have G10 : ∀ W, Calls Tryz.prog 28 #[.int .i64 v] W fun e w' => e = .returned (.string (tx (dec v))) ∧ Below W.heap.size W w' := fun W => digits_any v W (by omega)
    have G20 : ∀ W, Calls Tryz.prog 28 #[.int .i64 p] W fun e w' => e = .returned (.string (tx (dec p))) ∧ Below W.heap.size W w' := fun W => digits_any p W (by omega)
    have G30 : ∀ W, Calls Tryz.prog 28 #[.int .i64 q] W fun e w' => e = .returned (.string (tx (dec q))) ∧ Below W.heap.size W w' := fun W => digits_any q W (by omega)
    have z0 := okLinesT_len n1
    have z3 := endT_len ⟨[], L⟩ (Nat.zero_le _) (by show L.length ≤ 10000; omega)
    obtain ⟨P0, hP0⟩ : ∃ V, V = tx (linesT (L.map layerLine)) := ⟨_, rfl⟩
    obtain ⟨M1, hM1⟩ : ∃ V, V = tx (linesT (L.map layerLine) ++ [97, 103, 101, 32]) := ⟨_, rfl⟩
    have MA1 : ∀ W : World, (Op.stringOp .add P0 (ByteArray.mk #[97, 103, 101, 32])).run Tryz.prog W = .ok (.string M1) W := by rw [hP0, hM1]; exact add_tx _ ([97, 103, 101, 32]) _ (by simp [wAge]) (by simp [wAge]; omega)
    obtain ⟨Dv, hDv⟩ : ∃ V, V = tx (dec v) := ⟨_, rfl⟩
    obtain ⟨M2, hM2⟩ : ∃ V, V = tx (linesT (L.map layerLine) ++ [97, 103, 101, 32] ++ dec v) := ⟨_, rfl⟩
    have MA2 : ∀ W : World, (Op.stringOp .add M1 Dv).run Tryz.prog W = .ok (.string M2) W := by rw [hM1, hM2, hDv]; exact add_tx _ (dec v) _ (by simp [wAge]) (by simp [wAge]; omega)
    obtain ⟨M3, hM3⟩ : ∃ V, V = tx (linesT (L.map layerLine) ++ ((wAge ++ 32 :: dec v) ++ [10])) := ⟨_, rfl⟩
    have MA3 : ∀ W : World, (Op.stringOp .add M2 (ByteArray.mk #[10])).run Tryz.prog W = .ok (.string M3) W := by rw [hM2, hM3]; exact add_tx _ ([10]) _ (by simp [wAge]) (by simp [wAge]; omega)
    obtain ⟨Q0, hQ0⟩ : ∃ V, V = tx (okLinesT n1) := ⟨_, rfl⟩
    obtain ⟨Dp, hDp⟩ : ∃ V, V = tx (dec p) := ⟨_, rfl⟩
    obtain ⟨R1, hR1⟩ : ∃ V, V = tx (okLinesT n1 ++ dec p) := ⟨_, rfl⟩
    have RA1 : ∀ W : World, (Op.stringOp .add Q0 Dp).run Tryz.prog W = .ok (.string R1) W := by rw [hQ0, hR1, hDp]; exact add_tx _ (dec p) _ (by simp) (by simp; omega)
    obtain ⟨R2, hR2⟩ : ∃ V, V = tx (okLinesT n1 ++ dec p ++ [32]) := ⟨_, rfl⟩
    have RA2 : ∀ W : World, (Op.stringOp .add R1 (ByteArray.mk #[32])).run Tryz.prog W = .ok (.string R2) W := by rw [hR1, hR2]; exact add_tx _ ([32]) _ (by simp) (by simp; omega)
    obtain ⟨Dq, hDq⟩ : ∃ V, V = tx (dec q) := ⟨_, rfl⟩
    obtain ⟨R3, hR3⟩ : ∃ V, V = tx (okLinesT n1 ++ dec p ++ [32] ++ dec q) := ⟨_, rfl⟩
    have RA3 : ∀ W : World, (Op.stringOp .add R2 Dq).run Tryz.prog W = .ok (.string R3) W := by rw [hR2, hR3, hDq]; exact add_tx _ (dec q) _ (by simp) (by simp; omega)
    obtain ⟨R4, hR4⟩ : ∃ V, V = tx (okLinesT n1 ++ dec p ++ [32] ++ dec q ++ [10]) := ⟨_, rfl⟩
    have RA4 : ∀ W : World, (Op.stringOp .add R3 (ByteArray.mk #[10])).run Tryz.prog W = .ok (.string R4) W := by rw [hR3, hR4]; exact add_tx _ ([10]) _ (by simp) (by simp; omega)
    obtain ⟨EE, hEE⟩ : ∃ V, V = tx (endT ⟨[], L⟩) := ⟨_, rfl⟩
    obtain ⟨R5, hR5⟩ : ∃ V, V = tx (okLinesT n1 ++ (dec p ++ 32 :: dec q ++ [10]) ++ endT ⟨[], L⟩) := ⟨_, rfl⟩
    have RA5 : ∀ W : World, (Op.stringOp .add R4 EE).run Tryz.prog W = .ok (.string R5) W := by rw [hR4, hR5, hEE]; exact add_tx _ (endT ⟨[], L⟩) _ (by simp) (by simp; omega)
    rw [← hP0] at PL0
    rw [← hM3, ← hR5] at EX0
    rw [← hQ0] at OK0
    rw [← hEE] at EL0
    rw [← hDv] at G10
    rw [← hDp] at G20
    rw [← hDq] at G30
    have KZ := Lib.hid KZ0
    have PL := Lib.hid PL0
    have EX := Lib.hid EX0
    have OK := Lib.hid OK0
    have EL := Lib.hid EL0
    have G1 := Lib.hid G10
    have G2 := Lib.hid G20
    have G3 := Lib.hid G30
    clear PL0 EX0 OK0 EL0 G10 G20 G30 KI0 KS0 KZ0 hP0 hM1 hDv hM2 hM3 hQ0 hDp hR1 hR2 hDq hR3 hR4 hEE hR5 z0 z3 hlen hdv hdp hdq hT0 hX hB hS hS' hcnt hbdc h20 hp hq hv ht0 ht1
    go_wp2_with (first
      | (go_at_call 30; with_reducible refine (KI.out _ (AR.out _ (Below.refl _ _))).mono ?_; rintro e w2 ⟨rfl, b2⟩; have S2 : Below w1.heap.size w1 w2 := b2)
      | (go_at_call 31; refine (KS.out _ (AR.out _ S2)).mono ?_; rintro e w3 ⟨rfl, b3⟩; have S3 := S2.trans (b3.mono S2.size))
      | (go_at_call 30; with_reducible refine (KZ.out _ (AR.out _ S3)).mono ?_; rintro e w3' ⟨rfl, b3'⟩; have S3' := S3.trans (b3'.mono S3.size))
      | (go_at_call 22; refine (PL.out _ (AR.out _ S3') (HT1.out.below S3' (Nat.le_refl _))).mono ?_; rintro e w4 ⟨rfl, b4⟩; have S4 := S3'.trans (b4.mono S3'.size))
      | (go_at_call 28; with_reducible refine (G1.out _).mono ?_; rintro e w6 ⟨rfl, b6⟩; have S6 := S4.trans (b6.mono S4.size))
      | (go_at_call 15; refine (EX.out _ (HT1.out.below S6 (Nat.le_refl _)) (HE1.out.below S6 (Nat.le_refl _))).mono ?_; rintro e w7 ⟨rfl, b7⟩; have S7 := S6.trans (b7.mono S6.size))
      | (go_at_call 24; refine (OK.out _).mono ?_; rintro e w' ⟨rfl, rfl⟩)
      | (go_at_call 28; with_reducible refine (G2.out _).mono ?_; rintro e w8 ⟨rfl, b8⟩; have S8 := S7.trans (b8.mono S7.size))
      | (go_at_call 28; with_reducible refine (G3.out _).mono ?_; rintro e w9 ⟨rfl, b9⟩; have S9 := S8.trans (b9.mono S8.size))
      | (go_at_call 23; refine (EL.out _).mono ?_; rintro e w10 ⟨rfl, b10⟩; have S10 := S9.trans (b10.mono S9.size)))
    go_ret
    exact ⟨ret_bool (by simp), b1.trans (S10.mono b1.size)⟩
end Go.Proofs.YtefadlbfkhndfaaGreatDoor
