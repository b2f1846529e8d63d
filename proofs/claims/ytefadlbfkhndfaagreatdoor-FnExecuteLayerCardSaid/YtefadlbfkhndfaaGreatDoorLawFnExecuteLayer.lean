/-
  The walk of the law FnExecuteLayer.
-/
import Derived.Test.YtefadlbfkhndfaaGreatDoorLinesLA
import Derived.Test.YtefadlbfkhndfaaGreatDoorGD
import Derived.Test.YtefadlbfkhndfaaGreatDoorGE
import Derived.Test.YtefadlbfkhndfaaGreatDoorGB
import Derived.Test.YtefadlbfkhndfaaGreatDoorGA
import Derived.BigQuiet
namespace Go.Proofs.YtefadlbfkhndfaaGreatDoor
open Go.RowKit
set_option linter.unusedSimpArgs false
set_option linter.unusedVariables false

set_option maxRecDepth 100000 in
set_option maxHeartbeats 4000000 in
theorem walk_FnExecuteLayer (w : World) (A : Option Addr) (n c : Nat) (l : List Int) (h : Arr BB 1 w w.heap.size A n l) (hby : ∀ x ∈ l, 0 ≤ x ∧ x ≤ 255) (hc : n ≤ c) (hT : Tab w) (hE : Errs w) :
    Calls Tryz.prog 9 #[.slice A n c] w fun e w' => e = .returned (.bool true) ∧ Below w.heap.size w w' := by
  have C := Lib.hid (DrawLayersValid_any A n c l w h hby hc)
  have HT := Lib.hid hT
  have HE := Lib.hid hE
  clear hby h hT hE
  by_cases hb : 1048576 < n
  · go_enter Tryz.func9, Tryz.ntmps9
    go_wp2_with fail
    go_ret
    exact ⟨rfl, Below.refl _ _⟩
  go_enter Tryz.func9, Tryz.ntmps9
  go_wp2_with fail
  refine C.out.mono ?_
  rintro e w1 ⟨A1, n1, c1, L, rfl, o1, hn1, b1⟩
  clear C
  have OW := Lib.hid o1
  have HT1 := Lib.hid (HT.out.below b1 (Nat.le_refl _))
  have HE1 := Lib.hid (HE.out.below b1 (Nat.le_refl _))
  have hL1 := Lib.hid o1.1
  have KI0 := fun W h => implLayersValid_any A1 n1 c1 L W h (by omega)
  have KS0 := fun W h => specLayersValid_any A1 n1 c1 L W h (by omega)
  have AR := Lib.hid (fun W (hW : Below w1.heap.size w1 W) => (OW.out.below hW (Nat.le_refl _)).arr LL_length)
  have hcap : n1 ≤ c1 := by
    obtain ⟨_, _, e, hcc, _⟩ := o1.form
    injection e with e1 e2 e3
    omega
  clear o1
  cases hB : layB L with
  | false =>
    rw [hB] at KI0 KS0
    have KI := Lib.hid KI0
    have KS := Lib.hid KS0
    clear KI0 KS0 hB
    go_wp2_with (first
      | (go_at_call 20; refine (KI.out _ (AR.out _ (Below.refl _ _))).mono ?_; rintro e w2 ⟨rfl, b2⟩; have S2 : Below w1.heap.size w1 w2 := b2)
      | (go_at_call 21; refine (KS.out _ (AR.out _ S2)).mono ?_; rintro e w3 ⟨rfl, b3⟩; have S3 := S2.trans (b3.mono S2.size)))
    go_ret
    exact ⟨ret_bool (by simp), b1.trans (S3.mono b1.size)⟩
  | true =>
    have h20 : L.length ≤ 20 := by rw [hL1.out]; omega
    have hno : ∀ w ∈ L.map layerLine, (10 : UInt8) ∉ w := by
      intro w hw
      obtain ⟨p, _, rfl⟩ := List.mem_map.1 hw
      exact layerLine_no10 p
    have hlen := layers_len hB h20
    rcases n1 with _ | m
    · obtain rfl : L = [] := List.eq_nil_of_length_eq_zero hL1.out
      rw [hB] at KI0 KS0
      have KI := Lib.hid KI0
      have KS := Lib.hid KS0
      have EX := Lib.hid (fun W hW hV => execute_lines [] (by simp) (by simp [linesT]) (by simp) W hW hV)
      have hx : tx (execT (linesT [])) = tx (endT st0) := congrArg tx (by rw [execT_short (by simp [linesT])]; rfl)
      rw [hx] at EX
      have PL := Lib.hid (fun W h => layerLines_any A1 0 c1 [] W h rfl (by omega))
      have EL := Lib.hid (fun W => endLine_any 0 0 st0 rfl rfl (by omega) (by omega) W)
      obtain ⟨EE, hEE⟩ : ∃ P, P = tx (endT st0) := ⟨_, rfl⟩
      rw [← hEE] at EX EL
      clear KI0 KS0 hx hB hEE hno hlen h20
      go_wp2_with (first
        | (go_at_call 20; refine (KI.out _ (AR.out _ (Below.refl _ _))).mono ?_; rintro e w2 ⟨rfl, b2⟩; have S2 : Below w1.heap.size w1 w2 := b2)
        | (go_at_call 21; refine (KS.out _ (AR.out _ S2)).mono ?_; rintro e w3 ⟨rfl, b3⟩; have S3 := S2.trans (b3.mono S2.size))
        | (go_at_call 22; refine (PL.out _ (AR.out _ S3) (HT1.out.below S3 (Nat.le_refl _))).mono ?_; rintro e w4 ⟨rfl, b4⟩; have S4 := S3.trans (b4.mono S3.size))
        | (go_at_call 15; refine (EX.out _ (HT1.out.below S4 (Nat.le_refl _)) (HE1.out.below S4 (Nat.le_refl _))).mono ?_; rintro e w5 ⟨rfl, b5⟩; have S5 := S4.trans (b5.mono S4.size))
        | (go_at_call 23; refine (EL.out _).mono ?_; rintro e w8 ⟨rfl, b8⟩; have S8 := S5.trans (b8.mono S5.size)))
      go_ret
      exact ⟨ret_bool (by simp), b1.trans (S8.mono b1.size)⟩
    · have hm : m < L.length := by rw [hL1.out]; omega
      obtain ⟨p, hp⟩ : ∃ p, L[m]? = some p := ⟨_, List.getElem?_eq_getElem hm⟩
      have hlast : L.getLast? = some p := by rw [List.getLast?_eq_getElem?, hL1.out]; exact hp
      have hX := exec_layer hB h20 hlast
      rw [hL1.out] at hX
      have hmem : p ∈ L := List.mem_of_getElem? hp
      have hT0 : linesT (L.map layerLine) ++ (layerLine p ++ [10]) = linesT (L.map layerLine ++ [layerLine p]) := by rw [linesT_append]; simp [linesT]
      have hno2 : ∀ w ∈ L.map layerLine ++ [layerLine p], (10 : UInt8) ∉ w := layers_no10 L _ (by
        intro w hw
        rw [List.mem_singleton.1 hw]; exact layerLine_no10 p)
      have hll := layerLine_len hB hmem
      have EX0 := fun W hW hV => execute_lines (L.map layerLine ++ [layerLine p]) hno2 (by rw [← hT0]; simp; omega) (lines_layers1 hB (by rw [layerLine_words]; exact lineOk_layerA (layerLine_bd hB hmem) (by show L.length ≤ 900; omega))) W hW hV
      rw [← hT0, hX] at EX0
      rw [hB] at KI0 KS0
      have KI := Lib.hid KI0
      have KS := Lib.hid KS0
      have hpB : layB [p] = true := (layB_iff _).2 ⟨by have := layFrom_mem ((layB_iff L).1 hB).1 _ hmem; rw [layFrom_cons]; exact ⟨by omega, rfl⟩, by simp⟩
      have PL := Lib.hid (fun W h => layerLines_any A1 (m + 1) c1 L W h hB (by omega))
      obtain ⟨G1, cG, eG, hG0, hG1, hGc⟩ := OW.out.head (by omega)
      injection eG with eG _ eC
      subst eG; subst eC
      have P2 := Lib.hid (fun W (hW : Below w1.heap.size w1 W) hT => layerLines_any (some ⟨G1, m * 2, none⟩) 1 (c1 - m) [p] W (by
        have := (AR.out W hW).one hp (by omega)
        simpa using this) hpB (by omega) hT)
      have OK := Lib.hid (fun W => okLines_any (m + 1) (by omega) W)
      have EL := Lib.hid (fun W => endLine_any 0 (m + 1) ⟨[], L⟩ rfl hL1.out (by omega) (by omega) W)
      have z0 := okLinesT_len (m + 1)
      have z3 := endT_len ⟨[], L⟩ (Nat.zero_le _) (by show L.length ≤ 10000; omega)
      have z4 : (linesT ([p].map layerLine)).length ≤ 100 := by simp [linesT]; omega
      have a0 : tx (linesT (L.map layerLine)) ++ tx (linesT ([p].map layerLine)) = tx (linesT (L.map layerLine) ++ (layerLine p ++ [10])) := by
        rw [tx_add]; simp [linesT]
      have A0 := add_at _ _ _ (by rw [tx_size, tx_size]; omega) a0
      have a1 : tx (okLinesT (m + 1)) ++ (ByteArray.mk #[110, 111, 10]) = tx (okLinesT (m + 1) ++ (noT ++ [10])) := tx_add _ [110, 111, 10]
      have AA1 := add_at _ _ _ (by rw [tx_size]; show _ + 3 ≤ 1000000; omega) a1
      have a2 : tx (okLinesT (m + 1) ++ (noT ++ [10])) ++ tx (endT ⟨[], L⟩) = tx (okLinesT (m + 1) ++ (noT ++ [10]) ++ endT ⟨[], L⟩) := tx_add _ _
      have AA2 := add_at _ _ _ (by rw [tx_size, tx_size]; simp [noT]; omega) a2
      obtain ⟨P0, hP0⟩ : ∃ P, P = tx (linesT (L.map layerLine)) := ⟨_, rfl⟩
      obtain ⟨P1, hP1⟩ : ∃ P, P = tx (linesT ([p].map layerLine)) := ⟨_, rfl⟩
      obtain ⟨P2', hP2⟩ : ∃ P, P = tx (linesT (L.map layerLine) ++ (layerLine p ++ [10])) := ⟨_, rfl⟩
      obtain ⟨FN, hFN⟩ : ∃ P, P = tx (okLinesT (m + 1) ++ (noT ++ [10]) ++ endT ⟨[], L⟩) := ⟨_, rfl⟩
      obtain ⟨Q1, hQ1⟩ : ∃ P, P = tx (okLinesT (m + 1) ++ (noT ++ [10])) := ⟨_, rfl⟩
      obtain ⟨Q0, hQ0⟩ : ∃ P, P = tx (okLinesT (m + 1)) := ⟨_, rfl⟩
      obtain ⟨EE, hEE⟩ : ∃ P, P = tx (endT ⟨[], L⟩) := ⟨_, rfl⟩
      have EX := Lib.hid EX0
      rw [← hP0] at PL A0
      rw [← hP1] at A0 P2
      rw [← hP2] at A0 EX
      rw [← hFN] at EX AA2
      rw [← hQ1] at AA1 AA2
      rw [← hQ0] at OK AA1
      rw [← hEE] at EL AA2
      have e1 : IntKind.i64.wrap (((m + 1 : Nat) : Int) - 1) = (m : Int) := by rw [show ((m + 1 : Nat) : Int) - 1 = (m : Int) by omega]; exact IntWalk.i64_in _ ⟨by omega, by omega⟩
      have hkc : ¬ (c1 = m) := by omega
      clear EX0 KI0 KS0 hX hT0 hno hno2 hlen hll z0 z3 z4 a0 a1 a2 hP0 hP1 hP2 hFN hQ1 hQ0 hEE hp hlast hmem hpB hB h20 hm
      go_wp2_with (first
        | (go_at_call 20; refine (KI.out _ (AR.out _ (Below.refl _ _))).mono ?_; rintro e w2 ⟨rfl, b2⟩; have S2 : Below w1.heap.size w1 w2 := b2)
        | (go_at_call 21; refine (KS.out _ (AR.out _ S2)).mono ?_; rintro e w3 ⟨rfl, b3⟩; have S3 := S2.trans (b3.mono S2.size)))
      have L1 : Hid (∀ W, Below w3.heap.size w3 W → Calls Tryz.prog 22 #[.slice (some ⟨G1, 0, none⟩) (m + 1) c1] W fun e w' => e = .returned (.string P0) ∧ Below w3.heap.size w3 w') := Lib.hid (fun W hW => have hV := S3.trans (hW.mono S3.size); calls_later hW (PL.out W (AR.out W hV) (HT1.out.below hV (Nat.le_refl _))))
      have L2 : Hid (∀ W, Below w3.heap.size w3 W → Calls Tryz.prog 22 #[.slice (some ⟨G1, m * 2, none⟩) 1 (c1 - m)] W fun e w' => e = .returned (.string P1) ∧ Below w3.heap.size w3 w') := Lib.hid (fun W hW => have hV := S3.trans (hW.mono S3.size); calls_later hW (P2.out W hV (HT1.out.below hV (Nat.le_refl _))))
      have L3 : Hid (∀ W, Below w3.heap.size w3 W → Calls Tryz.prog 15 #[.string P2'] W fun e w' => e = .returned (.string FN) ∧ Below w3.heap.size w3 w') := Lib.hid (fun W hW => have hV := S3.trans (hW.mono S3.size); calls_later hW (EX.out W (HT1.out.below hV (Nat.le_refl _)) (HE1.out.below hV (Nat.le_refl _))))
      have L4 : Hid (∀ W, Below w3.heap.size w3 W → Calls Tryz.prog 24 #[.int .i64 ((m : Int) + 1)] W fun e w' => e = .returned (.string Q0) ∧ Below w3.heap.size w3 w') := Lib.hid (fun W hW => calls_later_same hW (OK.out W))
      have L5 : Hid (∀ W, Below w3.heap.size w3 W → Calls Tryz.prog 23 #[.int .i64 0, .int .i64 ((m : Int) + 1)] W fun e w' => e = .returned (.string EE) ∧ Below w3.heap.size w3 w') := Lib.hid (fun W hW => calls_later hW (EL.out W))
      have HB3 := Lib.hid (b1.trans (S3.mono b1.size))
      have hs3 := Lib.hid (b1.trans (S3.mono b1.size)).size
      clear PL P2 EX OK EL KI KS S2 S3 b2 b3
      refine wp_region_under (B := w3.heap.size) (w0 := w3) (by kernel_rfl) (by kernel_rfl) (Below.refl _ _) ?_
      repeat (go_big_quiet_step ((first
        | (go_at_call 22; with_reducible exact Calls.underK2 L1.out)
        | (go_at_call 22; with_reducible exact Calls.underK2 L2.out)
        | (go_at_call 15; with_reducible exact Calls.underK2 L3.out)
        | (go_at_call 24; with_reducible exact Calls.underK2 L4.out)
        | (go_at_call 23; with_reducible exact Calls.underK2 L5.out))))
      refine wpQuiet_nil ?_
      rintro w4 ⟨q, hq⟩
      have hb4 := HB3.out.trans ((show Below w3.heap.size w3 w4 by rw [hq]; exact q.2).mono HB3.out.size)
      clear hq q
      go_wp2
      go_ret
      exact ⟨ret_bool (by simp), hb4⟩
end Go.Proofs.YtefadlbfkhndfaaGreatDoor
