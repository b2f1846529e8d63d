/-
  Contracts: the laws' own words pieceLines, okLines.
-/
import Derived.Test.YtefadlbfkhndfaaDoorDigits
import Derived.Test.YtefadlbfkhndfaaDoorPlainS3
import Derived.Deep.RegionHeld3
import Derived.BigQuiet
import Derived.Test.YtefadlbfkhndfaaDoorUnder
namespace Go.Proofs.YtefadlbfkhndfaaDoor
open Go.RowKit
set_option linter.unusedSimpArgs false
set_option linter.unusedVariables false

theorem okLinesT_len (n : Nat) : (okLinesT n).length = 3 * n := by
  induction n with
  | zero => rfl
  | succ n ih => rw [okLinesT_succ]; simp [ih]; omega
set_option maxHeartbeats 1000000 in
theorem okLines_any (n : Nat) (hn : n ≤ 1000) (w : World) :
    Calls Tryd.prog 16 #[.int .i64 n] w fun e w' => e = .returned (.string (tx (okLinesT n))) ∧ w = w' := by
  go_enter Tryd.func16, Tryd.ntmps16
  go_wp2_with fail
  go_loopw [3, 4] (fun s i wr => wr = w ∧ ∃ k : Nat, k ≤ n ∧ i = .int .i64 k ∧ s = .string (tx (okLinesT k))) (fun _ i _ => n - (intOf i).toNat)
  case atStart => exact ⟨rfl, 0, Nat.zero_le _, rfl, rfl⟩
  case round =>
    obtain ⟨rfl, k, hk, rfl, rfl⟩ := hrel
    by_cases hlt : k < n
    · have ik : (k : Int) < (n : Int) := by omega
      have hl := okLinesT_len k
      have h1 : tx (okLinesT k) ++ (ByteArray.mk #[111, 107, 10]) = tx (okLinesT (k + 1)) := by
        show _ ++ tx [111, 107, 10] = _
        rw [tx_add, okLinesT_succ]
      have A1 := add_at _ _ _ (by rw [tx_size]; show _ + 3 ≤ 1000000; omega) h1
      obtain ⟨X, hX⟩ : ∃ X, X = tx (okLinesT k) := ⟨_, rfl⟩
      rw [← hX] at A1
      simp only [← hX]
      have HX := Lib.hid hX
      clear hX h1 hl
      go_wp2_with fail
      go_roundw
      case rel => exact ⟨trivial, k + 1, by omega, by go_num, rfl⟩
      case measure => simp [intOf]; omega
    · obtain rfl : k = n := by omega
      go_wp2
      go_ret
      exact ⟨rfl, rfl⟩

theorem pl_snoc {l : List Pc} {k : Nat} {x y : Int} (h : l[k]? = some (x, y)) : linesT ((l.take (k + 1)).map pieceLine) = linesT ((l.take k).map pieceLine) ++ ([112, 105, 101, 99, 101, 32] ++ (dec x.toNat ++ ([32] ++ (dec y.toNat ++ [10])))) := by
  rw [take_snoc h, List.map_append, linesT_append]
  simp [linesT, pieceLine, wPiece]
set_option maxRecDepth 100000 in
set_option maxHeartbeats 4000000 in
theorem pieceLines_any (A : Option Addr) (n c : Nat) (l : List Pc) (w : World) (h : Arr PP 2 w w.heap.size A n l) (hB : coreB l = true) :
    Calls Tryd.prog 15 #[.slice A n c] w fun e w' => e = .returned (.string (tx (linesT (l.map pieceLine)))) ∧ Below w.heap.size w w' := by
  have hln := Lib.hid h.1
  obtain ⟨hF, h20⟩ := (coreB_iff l).1 hB
  rw [hln.out] at h20
  have HF := Lib.hid hF
  clear hB hF
  go_enter Tryd.func15, Tryd.ntmps15
  go_wp2_with fail
  go_loopw [3, 4] (fun s i wr => ∃ (k : Nat) (S : ByteArray), k ≤ n ∧ i = .int .i64 k ∧ s = .string S ∧ Hid (S = tx (linesT ((l.take k).map pieceLine))) ∧ S.size ≤ 30 * k ∧ Below w.heap.size w wr) (fun _ i _ => n - (intOf i).toNat)
  case atStart => exact ⟨0, ⟨#[]⟩, Nat.zero_le _, rfl, rfl, Lib.hid rfl, by simp [ByteArray.size], Below.refl _ _⟩
  case round =>
    obtain ⟨k, S, hk, rfl, rfl, hS, hSz, hb⟩ := hrel
    by_cases hlt : k < n
    · obtain ⟨b, off, x, y, rfl, hbB, hx, c1, c2⟩ := h.pair hlt
      have hm := coreFrom_mem HF.out _ (List.mem_of_getElem? hx)
      obtain ⟨u, rfl⟩ : ∃ u : Nat, x = u := ⟨x.toNat, by omega⟩
      obtain ⟨v, rfl⟩ : ∃ v : Nat, y = v := ⟨y.toNat, by omega⟩
      have hu : u ≤ 10000000 := by omega
      have hv : v ≤ 10000000 := by omega
      obtain ⟨X, hX⟩ : ∃ X, X = tx (Lib.decDigits u) := ⟨_, rfl⟩
      obtain ⟨Y, hY⟩ : ∃ Y, Y = tx (Lib.decDigits v) := ⟨_, rfl⟩
      have K1' := Lib.hid (fun W => digits_any u W hu)
      have K2' := Lib.hid (fun W => digits_any v W hv)
      rw [← hX] at K1'
      rw [← hY] at K2'
      have hXz : X.size ≤ 8 := by rw [hX, tx_size]; exact dec_len 7 u (by omega)
      have hYz : Y.size ≤ 8 := by rw [hY, tx_size]; exact dec_len 7 v (by omega)
      have pz : (ByteArray.mk #[112, 105, 101, 99, 101, 32]).size = 6 := rfl
      have qz : (ByteArray.mk #[32]).size = 1 := rfl
      have nz : (ByteArray.mk #[10]).size = 1 := rfl
      obtain ⟨T1, h1⟩ : ∃ T, T = S ++ (ByteArray.mk #[112, 105, 101, 99, 101, 32]) := ⟨_, rfl⟩
      obtain ⟨T2, h2⟩ : ∃ T, T = T1 ++ X := ⟨_, rfl⟩
      obtain ⟨T3, h3⟩ : ∃ T, T = T2 ++ (ByteArray.mk #[32]) := ⟨_, rfl⟩
      obtain ⟨T4, h4⟩ : ∃ T, T = T3 ++ Y := ⟨_, rfl⟩
      obtain ⟨T5, h5⟩ : ∃ T, T = T4 ++ (ByteArray.mk #[10]) := ⟨_, rfl⟩
      have z1 : T1.size = S.size + 6 := by rw [h1, ByteArray.size_append, pz]
      have z2 : T2.size = T1.size + X.size := by rw [h2, ByteArray.size_append]
      have z3 : T3.size = T2.size + 1 := by rw [h3, ByteArray.size_append, qz]
      have z4 : T4.size = T3.size + Y.size := by rw [h4, ByteArray.size_append]
      have z5 : T5.size = T4.size + 1 := by rw [h5, ByteArray.size_append, nz]
      have z6 : T5.size ≤ 30 * (k + 1) := by omega
      have HS5 : Hid (T5 = tx (linesT ((l.take (k + 1)).map pieceLine))) := Lib.hid (by
        rw [pl_snoc hx, h5, h4, h3, h2, h1, hS.out, hX, hY]
        show tx _ ++ tx [112, 105, 101, 99, 101, 32] ++ tx _ ++ tx [32] ++ tx _ ++ tx [10] = _
        rw [tx_add, tx_add, tx_add, tx_add, tx_add]
        simp [dec])
      have A1 := add_at S (ByteArray.mk #[112, 105, 101, 99, 101, 32]) T1 (by omega) h1.symm
      have A2 := add_at T1 X T2 (by omega) h2.symm
      have A3 := add_at T2 (ByteArray.mk #[32]) T3 (by omega) h3.symm
      have A4 := add_at T3 Y T4 (by omega) h4.symm
      have A5 := add_at T4 (ByteArray.mk #[10]) T5 (by omega) h5.symm
      have c1' := (hb.cell (by exact hbB)).trans c1
      have c2' := (hb.cell (by exact hbB)).trans c2
      have ik : (k : Int) < (n : Int) := by omega
      have ik0 : (0 : Int) ≤ (k : Int) := by omega
      have hsz := hb.size
      have D1 := Later.cell (w0 := wr) (B := w.heap.size) (by exact hbB) c1'
      have D2 := Later.cell (w0 := wr) (B := w.heap.size) (by exact hbB) c2'
      clear hX hY h1 h2 h3 h4 h5 z1 z2 z3 z4 z5 pz qz nz hXz hYz hm hx c1 c2 c1' c2' hS hSz
      go_wp2_with fail
      refine wp_region_under (B := w.heap.size) (w0 := wr) (by kernel_rfl) (by kernel_rfl) (Below.refl _ _) ?_
      repeat (go_big_quiet_step ((first
        | (go_at_call 10; with_reducible exact Calls.under hsz (K1'.out _))
        | (go_at_call 10; with_reducible exact Calls.under hsz (K2'.out _)))))
      refine wpQuiet_nil ?_
      rintro w2 ⟨q, hq⟩
      have hb2 := hb.trans (show Below w.heap.size wr w2 by rw [hq]; exact q.2)
      clear hq q D1 D2 A1 A2 A3 A4 A5
      go_wp2
      go_roundw
      case rel => exact ⟨k + 1, T5, by omega, by go_num, rfl, HS5, z6, hb2⟩
      case measure => simp [intOf]; omega
    · obtain rfl : k = n := by omega
      have hE := Lib.hid (show l.take k = l from List.take_of_length_le (by rw [hln.out]; exact Nat.le_refl _))
      go_wp2
      go_ret
      exact ⟨ret_str (by rw [hS.out, hE.out]), hb⟩
end Go.Proofs.YtefadlbfkhndfaaDoor
