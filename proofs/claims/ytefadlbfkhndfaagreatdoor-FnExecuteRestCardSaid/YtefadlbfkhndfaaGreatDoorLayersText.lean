/-
  Contract: LayersText of the reference.
-/
import Derived.Test.YtefadlbfkhndfaaGreatDoorGB
namespace Go.Proofs.YtefadlbfkhndfaaGreatDoor
open Go.RowKit
set_option linter.unusedSimpArgs false
set_option linter.unusedVariables false

set_option maxHeartbeats 2000000 in
theorem specLayersText_any (A : Option Addr) (n c : Nat) (l : List Ly) (w : World) (h : Arr LL 2 w w.heap.size A n l) (hn : n ≤ 1099511627776) :
    Calls Tryz.prog 53 #[.slice A n c] w fun e w' => e = .returned (.string (tx (layersT l))) ∧ Below w.heap.size w w' := by
  have hln := Lib.hid h.1
  have KV' := Lib.hid (fun W hW => specLayersValid_any A n c l W hW hn)
  go_enter Tryz.func53, Tryz.ntmps53
  go_wp2_with fail
  go_loopw [3, 4] (fun s i wr => ∃ (k : Nat) (S : ByteArray), k ≤ n ∧ i = .int .i64 k ∧ s = .string S ∧ Hid (S = tx (laysT (l.take k))) ∧ S.size ≤ 8 * k ∧ Hid (0 < k → layB l = true) ∧ Below w.heap.size w wr) (fun _ i _ => n - (intOf i).toNat)
  case atStart => exact ⟨0, _, Nat.zero_le _, rfl, rfl, Lib.hid rfl, Nat.le_refl _, Lib.hid (fun e => absurd e (by omega)), Below.refl _ _⟩
  case round =>
    obtain ⟨k, S, hk, rfl, rfl, hS, hSz, hk1, hb⟩ := hrel
    by_cases hlt : k < n
    · have C := KV'.out wr ((h.below' hb).more hb.size)
      have ik : (k : Int) < (n : Int) := by omega
      have ik0 : (0 : Int) ≤ (k : Int) := by omega
      cases hB : layB l with
      | false =>
        rw [hB] at C
        have C' := Lib.hid C
        have hk0 : k = 0 := by
          rcases Nat.eq_zero_or_pos k with h0 | h0
          · exact h0
          · have := hk1.out h0; rw [hB] at this; cases this
        have hE := Lib.hid (show S = tx (layersT l) by rw [hS.out, hk0]; unfold layersT; rw [hB]; rfl)
        clear C hk0 hB
        go_wp2_with fail
        refine C'.out.mono ?_
        rintro e w1 ⟨rfl, b1⟩
        go_wp2
        go_ret
        exact ⟨ret_str hE.out, hb.trans (b1.mono hb.size)⟩
      | true =>
        rw [hB] at C
        have C' := Lib.hid C
        have HB := Lib.hid hB
        obtain ⟨hF, h40⟩ := (layB_iff l).1 hB
        rw [hln.out] at h40
        obtain ⟨b, off, x, s, rfl, hbB, hx, c1, c2⟩ := h.layer hlt
        have hm := layFrom_mem hF _ (List.mem_of_getElem? hx)
        have hm1 : -1 < x ∧ x ≤ 30000 := hm
        have HX := Lib.hid hx
        clear C hB hF hm hx
        go_wp2_with fail
        refine C'.out.mono ?_
        rintro e w1 ⟨rfl, b1⟩
        have hb1 := hb.trans (b1.mono hb.size)
        clear C' b1 hb
        obtain ⟨u, rfl⟩ : ∃ u : Nat, x = u := ⟨x.toNat, by omega⟩
        have hu : u ≤ 100000 := by omega
        obtain ⟨X, hX⟩ : ∃ X, X = tx (Lib.decDigits u) := ⟨_, rfl⟩
        have hXz : X.size ≤ 6 := by rw [hX]; exact kndec_tx hu
        have K1 := l6Dec_any u w1 hu
        rw [← hX] at K1
        have K1' := Lib.hid K1
        have c1' := (hb1.cell (by exact hbB)).trans c1
        have c2' := (hb1.cell (by exact hbB)).trans c2
        obtain ⟨T1, hT1⟩ : ∃ T, T = S ++ X := ⟨_, rfl⟩
        have z1 : T1.size = S.size + X.size := by rw [hT1, ByteArray.size_append]
        have A1 := knadd_at S X T1 (by omega) hT1.symm
        have hsz := hb1.size
        cases s with
        | true =>
          obtain ⟨T3, hT3⟩ : ∃ T, T = T1 ++ tx [10] := ⟨_, rfl⟩
          have z3 : T3.size = T1.size + 1 := by rw [hT3, ByteArray.size_append, tx_size]; rfl
          have HF := Lib.hid (show T3 = tx (laysT (l.take (k + 1))) by
            rw [hT3, hT1, hX, hS.out, laysT_snoc HX.out]
            simp only [tx_add]
            refine congrArg tx ?_
            simp [lyT])
          have A3 : ∀ W : World, (Op.stringOp .add T1 ⟨#[10]⟩).run Tryz.prog W = .ok (.string T3) W := knadd_at T1 (tx [10]) T3 (by rw [tx_size]; simp; omega) hT3.symm
          have hz3 : T3.size ≤ 8 * (k + 1) := by omega
          clear K1 hX hT1 hT3 hm1 c1 c2 hXz z1 z3 hS hSz
          go_wp2_with fail
          refine K1'.out.mono ?_
          rintro e w2 ⟨rfl, b2⟩
          have hb2 := hb1.trans (b2.mono hsz)
          have d2 := (hb2.cell (by exact hbB)).trans ((hb1.cell (by exact hbB)).symm.trans c2')
          clear c1' c2' K1' b2
          go_wp2
          go_roundw
          case rel => exact ⟨k + 1, T3, by omega, by go_num, rfl, HF, hz3, Lib.hid (fun _ => by first | exact HB.out | trivial), hb2⟩
          case measure => simp [intOf]; omega
        | false =>
          obtain ⟨T2, hT2⟩ : ∃ T, T = T1 ++ tx [63] := ⟨_, rfl⟩
          obtain ⟨T3, hT3⟩ : ∃ T, T = T2 ++ tx [10] := ⟨_, rfl⟩
          have z2 : T2.size = T1.size + 1 := by rw [hT2, ByteArray.size_append, tx_size]; rfl
          have z3 : T3.size = T2.size + 1 := by rw [hT3, ByteArray.size_append, tx_size]; rfl
          have HF := Lib.hid (show T3 = tx (laysT (l.take (k + 1))) by
            rw [hT3, hT2, hT1, hX, hS.out, laysT_snoc HX.out]
            simp only [tx_add]
            refine congrArg tx ?_
            simp [lyT])
          have A2 : ∀ W : World, (Op.stringOp .add T1 ⟨#[63]⟩).run Tryz.prog W = .ok (.string T2) W := knadd_at T1 (tx [63]) T2 (by rw [tx_size]; simp; omega) hT2.symm
          have A3 : ∀ W : World, (Op.stringOp .add T2 ⟨#[10]⟩).run Tryz.prog W = .ok (.string T3) W := knadd_at T2 (tx [10]) T3 (by rw [tx_size]; simp; omega) hT3.symm
          have hz3 : T3.size ≤ 8 * (k + 1) := by omega
          clear K1 hX hT1 hT2 hT3 hm1 c1 c2 hXz z1 z2 z3 hS hSz
          go_wp2_with fail
          refine K1'.out.mono ?_
          rintro e w2 ⟨rfl, b2⟩
          have hb2 := hb1.trans (b2.mono hsz)
          have d2 := (hb2.cell (by exact hbB)).trans ((hb1.cell (by exact hbB)).symm.trans c2')
          clear c1' c2' K1' b2
          go_wp2
          go_roundw
          case rel => exact ⟨k + 1, T3, by omega, by go_num, rfl, HF, hz3, Lib.hid (fun _ => by first | exact HB.out | trivial), hb2⟩
          case measure => simp [intOf]; omega
    · obtain rfl : k = n := by omega
      have hE := Lib.hid (show S = tx (layersT l) by
        rw [hS.out, List.take_of_length_le (by rw [hln.out]; exact Nat.le_refl _)]
        unfold layersT
        by_cases h0 : 0 < k
        · rw [if_pos (hk1.out h0)]
        · have hl0 : l = [] := List.eq_nil_of_length_eq_zero (by rw [hln.out]; omega)
          rw [hl0]; rfl)
      go_wp2
      go_ret
      exact ⟨ret_str hE.out, hb⟩
end Go.Proofs.YtefadlbfkhndfaaGreatDoor
