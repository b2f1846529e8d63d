/-
  Contract: CurveText of the reference, from the contract of its CurveValid.
-/
import Derived.Test.YtjbdoohpljffnaaDoorCurveP
namespace Go.Proofs.YtjbdoohpljffnaaDoor
open Go.RowKit
set_option linter.unusedSimpArgs false
set_option linter.unusedVariables false

def knT (p : Pc) : List UInt8 := Lib.decDigits p.1.toNat ++ ([32] ++ (Lib.decDigits p.2.toNat ++ [10]))
def knotsT (l : List Pc) : List UInt8 := l.flatMap knT
def curveT (l : List Pc) : List UInt8 := if curveB l = true then knotsT l else []
theorem knotsT_snoc {l : List Pc} {k : Nat} {p : Pc} (h : l[k]? = some p) : knotsT (l.take (k + 1)) = knotsT (l.take k) ++ knT p := by
  unfold knotsT; rw [take_snoc h, List.flatMap_append]; simp
theorem knadd_at (a b c : ByteArray) (h : a.size + b.size ≤ 1000000) (hc : a ++ b = c) : ∀ W : World, (Op.stringOp .add a b).run Tryd.prog W = .ok (.string c) W := fun W => by
  rw [← hc]; exact run_string_add_sum (P := Tryd.prog) (w := W) a b (by omega)
theorem kndec_tx {u : Nat} (h : u ≤ 100000) : (tx (Lib.decDigits u)).size ≤ 6 := by rw [tx_size]; exact dec_short h

set_option maxHeartbeats 2000000 in
theorem specCurveText_of (A : Option Addr) (n c : Nat) (l : List Pc) (w : World) (h : Arr PP 2 w w.heap.size A n l) (hn : n ≤ 1099511627776)
    (KV : ∀ W, Arr PP 2 W W.heap.size A n l → Calls Tryd.prog 49 #[.slice A n c] W fun e w' => e = .returned (.bool (curveB l)) ∧ Below W.heap.size W w') :
    Calls Tryd.prog 17 #[.slice A n c] w fun e w' => e = .returned (.string (tx (curveT l))) ∧ Below w.heap.size w w' := by
  have hln := Lib.hid h.1
  have KV' := Lib.hid KV
  clear KV
  go_enter Tryd.func17, Tryd.ntmps17
  go_wp2_with fail
  go_loopw [3, 4] (fun s i wr => ∃ (k : Nat) (S : ByteArray), k ≤ n ∧ i = .int .i64 k ∧ s = .string S ∧ Hid (S = tx (knotsT (l.take k))) ∧ S.size ≤ 14 * k ∧ Hid (0 < k → curveB l = true) ∧ Below w.heap.size w wr) (fun _ i _ => n - (intOf i).toNat)
  case atStart => exact ⟨0, _, Nat.zero_le _, rfl, rfl, Lib.hid rfl, Nat.le_refl _, Lib.hid (fun e => absurd e (by omega)), Below.refl _ _⟩
  case round =>
    obtain ⟨k, S, hk, rfl, rfl, hS, hSz, hk1, hb⟩ := hrel
    by_cases hlt : k < n
    · have C := KV'.out wr ((h.below' hb).more hb.size)
      have ik : (k : Int) < (n : Int) := by omega
      have ik0 : (0 : Int) ≤ (k : Int) := by omega
      cases hB : curveB l with
      | false =>
        rw [hB] at C
        have C' := Lib.hid C
        have hk0 : k = 0 := by
          rcases Nat.eq_zero_or_pos k with h0 | h0
          · exact h0
          · have := hk1.out h0; rw [hB] at this; cases this
        have hE := Lib.hid (show S = tx (curveT l) by rw [hS.out, hk0]; unfold curveT; rw [hB]; rfl)
        clear C hk0 hB
        go_wp2_with fail
        refine C'.out.mono ?_
        rintro e w1 ⟨rfl, b1⟩
        go_wp2
        go_ret
        exact ⟨ret_str hE.out, hb.trans (b1.mono hb.size)⟩
      | true =>
        rw [hB] at C
        have C' := Lib.hid C
        have HB := Lib.hid hB
        obtain ⟨hF, h2, h12⟩ := (curveB_iff l).1 hB
        rw [hln.out] at h12
        obtain ⟨b, off, x, y, rfl, hbB, hx, c1, c2⟩ := h.pair hlt
        have hm := curveFrom_mem hF _ (List.mem_of_getElem? hx)
        have hm1 : -1 < x ∧ x ≤ 30000 ∧ -1 < y ∧ y ≤ 30000 := hm
        clear C hB hF h2 hm
        go_wp2_with fail
        refine C'.out.mono ?_
        rintro e w1 ⟨rfl, b1⟩
        have hb1 := hb.trans (b1.mono hb.size)
        clear C' b1 hb
        obtain ⟨u, rfl⟩ : ∃ u : Nat, x = u := ⟨x.toNat, by omega⟩
        obtain ⟨v, rfl⟩ : ∃ v : Nat, y = v := ⟨y.toNat, by omega⟩
        have hu : u ≤ 100000 := by omega
        have hv : v ≤ 100000 := by omega
        obtain ⟨X, hX⟩ : ∃ X, X = tx (Lib.decDigits u) := ⟨_, rfl⟩
        obtain ⟨Y, hY⟩ : ∃ Y, Y = tx (Lib.decDigits v) := ⟨_, rfl⟩
        have hXz : X.size ≤ 6 := by rw [hX]; exact kndec_tx hu
        have hYz : Y.size ≤ 6 := by rw [hY]; exact kndec_tx hv
        have K1 := fun W => l6Dec_any u W hu
        have K2 := fun W => l6Dec_any v W hv
        rw [← hX] at K1
        rw [← hY] at K2
        have K1' := Lib.hid K1
        have K2' := Lib.hid K2
        obtain ⟨T1, hT1⟩ : ∃ T, T = S ++ X := ⟨_, rfl⟩
        obtain ⟨T2, hT2⟩ : ∃ T, T = T1 ++ tx [32] := ⟨_, rfl⟩
        obtain ⟨T3, hT3⟩ : ∃ T, T = T2 ++ Y := ⟨_, rfl⟩
        obtain ⟨T4, hT4⟩ : ∃ T, T = T3 ++ tx [10] := ⟨_, rfl⟩
        have z1 : T1.size = S.size + X.size := by rw [hT1, ByteArray.size_append]
        have z2 : T2.size = T1.size + 1 := by rw [hT2, ByteArray.size_append, tx_size]; rfl
        have z3 : T3.size = T2.size + Y.size := by rw [hT3, ByteArray.size_append]
        have z4 : T4.size = T3.size + 1 := by rw [hT4, ByteArray.size_append, tx_size]; rfl
        have HF := Lib.hid (show T4 = tx (knotsT (l.take (k + 1))) by
          rw [hT4, hT3, hT2, hT1, hX, hY, hS.out, knotsT_snoc hx]
          simp only [tx_add]
          refine congrArg tx ?_
          simp [knT])
        have A1 := knadd_at S X T1 (by omega) hT1.symm
        have A2 : ∀ W : World, (Op.stringOp .add T1 ⟨#[32]⟩).run Tryd.prog W = .ok (.string T2) W := knadd_at T1 (tx [32]) T2 (by rw [tx_size]; simp; omega) hT2.symm
        have A3 := knadd_at T2 Y T3 (by omega) hT3.symm
        have A4 : ∀ W : World, (Op.stringOp .add T3 ⟨#[10]⟩).run Tryd.prog W = .ok (.string T4) W := knadd_at T3 (tx [10]) T4 (by rw [tx_size]; simp; omega) hT4.symm
        have hz4 : T4.size ≤ 14 * (k + 1) := by omega
        have hsz := hb1.size
        have D1 := Later.cell (w0 := w1) (B := w.heap.size) (by exact hbB) ((hb1.cell (by exact hbB)).trans c1)
        have D2 := Later.cell (w0 := w1) (B := w.heap.size) (by exact hbB) ((hb1.cell (by exact hbB)).trans c2)
        clear K1 K2 hX hY hT1 hT2 hT3 hT4 hx hm1 c1 c2 hXz hYz z1 z2 z3 z4 hS hSz
        go_wp2_with fail
        refine wp_region_under (B := w.heap.size) (w0 := w1) (by kernel_rfl) (by kernel_rfl) (Below.refl _ _) ?_
        repeat (go_big_quiet_step ((first
          | (go_at_call 50; with_reducible exact Calls.under hsz (K1'.out _))
          | (go_at_call 50; with_reducible exact Calls.under hsz (K2'.out _)))))
        refine wpQuiet_nil ?_
        rintro w2 ⟨q, hq⟩
        have hb2 := hb1.trans (show Below w.heap.size w1 w2 by rw [hq]; exact q.2)
        clear hq q D1 D2 A1 A2 A3 A4
        go_wp2
        go_roundw
        case rel => exact ⟨k + 1, T4, by omega, by go_num, rfl, HF, hz4, Lib.hid (fun _ => by first | exact HB.out | trivial), hb2⟩
        case measure => simp [intOf]; omega
    · obtain rfl : k = n := by omega
      have hE := Lib.hid (show S = tx (curveT l) by
        rw [hS.out, List.take_of_length_le (by rw [hln.out]; exact Nat.le_refl _)]
        unfold curveT
        by_cases h0 : 0 < k
        · rw [if_pos (hk1.out h0)]
        · have hl0 : l = [] := List.eq_nil_of_length_eq_zero (by rw [hln.out]; omega)
          rw [hl0]; rfl)
      go_wp2
      go_ret
      exact ⟨ret_str hE.out, hb⟩
end Go.Proofs.YtjbdoohpljffnaaDoor
