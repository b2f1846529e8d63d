/-
  Contracts: CoreText of the reference and of the program.
-/
import Derived.Test.YtjbdoohpljffnaaDoorBuilder
import Derived.Test.YtjbdoohpljffnaaDoorCoreV
import Derived.Test.YtjbdoohpljffnaaDoorPlainS
import Derived.Test.YtjbdoohpljffnaaDoorAppend
import Derived.Lib.Join
import Derived.Deep.RegionHeld3
namespace Go.Proofs.YtjbdoohpljffnaaDoor
open Go.RowKit
set_option linter.unusedSimpArgs false
set_option linter.unusedVariables false

/-! ### Plain words -/
def pcT (p : Pc) : List UInt8 := Lib.decDigits p.1.toNat ++ ([45] ++ Lib.decDigits p.2.toNat)
def rowsT (l : List Pc) : List UInt8 := Lib.join (l.map pcT) [32]
def coreT (l : List Pc) : List UInt8 := if coreB l = true then (if l.length = 0 then [45] else rowsT l) else []
theorem join_snoc (xs : List (List UInt8)) (x sep : List UInt8) (h : xs ≠ []) : Lib.join (xs ++ [x]) sep = Lib.join xs sep ++ (sep ++ x) := by
  cases xs with
  | nil => exact absurd rfl h
  | cons y t => rw [List.cons_append, Lib.join_cons, Lib.join_cons]; simp [Lib.joinTail]
theorem rowsT_one {l : List Pc} {p : Pc} (h : l[0]? = some p) : rowsT (l.take 1) = pcT p := by
  cases l with
  | nil => simp at h
  | cons q t => simp at h; subst h; simp [rowsT, Lib.join_one]
theorem rowsT_snoc {l : List Pc} {k : Nat} {p : Pc} (h : l[k]? = some p) (h0 : 0 < k) : rowsT (l.take (k + 1)) = rowsT (l.take k) ++ ([32] ++ pcT p) := by
  unfold rowsT
  rw [take_snoc h, List.map_append]
  refine join_snoc _ _ _ ?_
  intro e
  have h1 : ((l.take k).map pcT).length = 0 := by rw [e]; rfl
  have hl := (List.getElem?_eq_some_iff.1 h).1
  rw [List.length_map, List.length_take] at h1
  omega
theorem infoStr : (Tryd.prog.info? 9).map (fun i => (i.zero, i.size, i.bytes)) = some (some (.string ⟨#[]⟩), 1, 16) := by kernel_rfl
def ST (s : ByteArray) : List Value := [.string s]
theorem ST_length (s : ByteArray) : (ST s).length = 1 := rfl
theorem one_ST (s : ByteArray) : ∀ u ∈ ST s, u.oneCell' = true := by
  intro u hu; simp [ST] at hu; subst hu; rfl
theorem Own.litST (w : World) (base : Nat) (T : TypeId) (s : ByteArray) (hb : base ≤ w.heap.size) : Own ST 1 (w.alloc (.cells #[.string s] T)) base T (.slice (some ⟨w.heap.size, 0, none⟩) 1 1) 1 [s] :=
  ⟨rfl, World.ownsRow_lit w #[.string s] 1 hb (by unfold maxLen; omega) rfl⟩
/-- The sum of two texts, wherever it is reckoned. -/
theorem add_at (a b c : ByteArray) (h : a.size + b.size ≤ 1000000) (hc : a ++ b = c) : ∀ W : World, (Op.stringOp .add a b).run Tryd.prog W = .ok (.string c) W := fun W => by
  rw [← hc]; exact run_string_add_sum (P := Tryd.prog) (w := W) a b (by omega)
theorem dec_tx {u : Nat} (h : u ≤ 100000) : (tx (Lib.decDigits u)).size ≤ 6 := by rw [tx_size]; exact dec_short h

set_option maxHeartbeats 2000000 in
theorem specCoreText_any (A : Option Addr) (n c : Nat) (l : List Pc) (w : World) (h : Arr PP 2 w w.heap.size A n l) (hn : n ≤ 1099511627776) :
    Calls Tryd.prog 30 #[.slice A n c] w fun e w' => e = .returned (.string (tx (coreT l))) ∧ Below w.heap.size w w' := by
  have C := specCoreValid_any A n c l w h hn
  have hln := Lib.hid h.1
  have hl1 := h.1
  cases hB : coreB l with
  | false =>
    rw [hB] at C
    have C' := Lib.hid C
    have hL := Lib.hid (show coreT l = [] by unfold coreT; rw [hB]; rfl)
    clear C hB hl1
    go_enter Tryd.func30, Tryd.ntmps30
    go_wp2_with fail
    refine C'.out.mono ?_
    rintro e w1 ⟨rfl, b1⟩
    go_wp2
    go_ret
    exact ⟨ret_str (by rw [hL.out]; rfl), b1⟩
  | true =>
    rw [hB] at C
    have C' := Lib.hid C
    obtain ⟨hF, h20⟩ := (coreB_iff l).1 hB
    have hF' := Lib.hid hF
    rw [hl1] at h20
    by_cases h0 : n = 0
    · have hL := Lib.hid (show coreT l = [45] by unfold coreT; rw [if_pos hB, if_pos (by rw [hl1]; exact h0)])
      have f0 : ((n : Int) == 0) = true := by simp; omega
      clear C hB hl1 hF h0
      go_enter Tryd.func30, Tryd.ntmps30
      go_wp2_with fail
      refine C'.out.mono ?_
      rintro e w1 ⟨rfl, b1⟩
      go_wp2
      go_ret
      exact ⟨ret_str (by rw [hL.out]; rfl), b1⟩
    · have hL := Lib.hid (show coreT l = rowsT l by unfold coreT; rw [if_pos hB, if_neg (by rw [hl1]; exact h0)])
      have f0 : ((n : Int) == 0) = false := by simp; omega
      clear C hB hl1 hF
      go_enter Tryd.func30, Tryd.ntmps30
      go_wp2_with fail
      refine C'.out.mono ?_
      rintro e w1 ⟨rfl, b1⟩
      clear C'
      go_wp2_with fail
      clear f0
      go_loopw [3, 4] (fun s i wr => ∃ (k : Nat) (S : ByteArray), k ≤ n ∧ i = .int .i64 k ∧ s = .string S ∧ Hid (S = tx (rowsT (l.take k))) ∧ S.size ≤ 14 * k ∧ Below w.heap.size w wr) (fun _ i _ => n - (intOf i).toNat)
      case atStart => exact ⟨0, _, Nat.zero_le _, rfl, rfl, Lib.hid rfl, Nat.le_refl _, b1⟩
      case round =>
        obtain ⟨k, S, hk, rfl, rfl, hS, hSz, hb⟩ := hrel
        by_cases hlt : k < n
        · obtain ⟨b, off, x, y, rfl, hbB, hx, c1, c2⟩ := h.pair hlt
          have hm := coreFrom_mem hF'.out _ (List.mem_of_getElem? hx)
          have hm1 : (0 : Int) ≤ x ∧ x < y ∧ y ≤ 30000 := hm
          obtain ⟨u, rfl⟩ : ∃ u : Nat, x = u := ⟨x.toNat, by omega⟩
          obtain ⟨v, rfl⟩ : ∃ v : Nat, y = v := ⟨y.toNat, by omega⟩
          have hu : u ≤ 100000 := by omega
          have hv : v ≤ 100000 := by omega
          obtain ⟨X, hX⟩ : ∃ X, X = tx (Lib.decDigits u) := ⟨_, rfl⟩
          obtain ⟨Y, hY⟩ : ∃ Y, Y = tx (Lib.decDigits v) := ⟨_, rfl⟩
          have hXz : X.size ≤ 6 := by rw [hX]; exact dec_tx hu
          have hYz : Y.size ≤ 6 := by rw [hY]; exact dec_tx hv
          have K1 := fun W => l6Dec_any u W hu
          have K2 := fun W => l6Dec_any v W hv
          rw [← hX] at K1
          rw [← hY] at K2
          have K1' := Lib.hid K1
          have K2' := Lib.hid K2
          -- the separator ahead of all but the first
          obtain ⟨T0, hT0⟩ : ∃ T0, T0 = (if k = 0 then S else S ++ tx [32]) := ⟨_, rfl⟩
          have hT0z : T0.size ≤ 14 * k + 1 := by
            rw [hT0]; split
            · omega
            · rw [ByteArray.size_append, tx_size]; simp; omega
          obtain ⟨T1, hT1⟩ : ∃ T, T = T0 ++ X := ⟨_, rfl⟩
          obtain ⟨T2, hT2⟩ : ∃ T, T = T1 ++ tx [45] := ⟨_, rfl⟩
          obtain ⟨T3, hT3⟩ : ∃ T, T = T2 ++ Y := ⟨_, rfl⟩
          have z1 : T1.size = T0.size + X.size := by rw [hT1, ByteArray.size_append]
          have z2 : T2.size = T1.size + 1 := by rw [hT2, ByteArray.size_append, tx_size]; rfl
          have z3 : T3.size = T2.size + Y.size := by rw [hT3, ByteArray.size_append]
          have HF := Lib.hid (show T3 = tx (rowsT (l.take (k + 1))) by
            rw [hT3, hT2, hT1, hX, hY]
            have hT0' : T0 ++ tx (Lib.decDigits u) ++ tx [45] ++ tx (Lib.decDigits v) = T0 ++ tx (pcT ((u : Int), (v : Int))) := by
              rw [ByteArray.append_assoc, ByteArray.append_assoc, tx_add, tx_add]; rfl
            rw [hT0', hT0]
            by_cases hk0 : k = 0
            · subst hk0
              rw [if_pos rfl, hS.out, tx_add, rowsT_one hx]
              rfl
            · rw [if_neg hk0, hS.out, tx_add, tx_add, rowsT_snoc hx (by omega), List.append_assoc])
          have A1 := add_at T0 X T1 (by omega) hT1.symm
          have A2 : ∀ W : World, (Op.stringOp .add T1 ⟨#[45]⟩).run Tryd.prog W = .ok (.string T2) W := add_at T1 (tx [45]) T2 (by rw [tx_size]; simp; omega) hT2.symm
          have A3 := add_at T2 Y T3 (by omega) hT3.symm
          have c1' := (hb.cell (by exact hbB)).trans c1
          have c2' := (hb.cell (by exact hbB)).trans c2
          have hz3 : T3.size ≤ 14 * (k + 1) := by omega
          have ik : (k : Int) < (n : Int) := by omega
          have ik0 : (0 : Int) ≤ (k : Int) := by omega
          have hsz := hb.size
          have D1 := Later.cell (w0 := wr) (B := w.heap.size) (by exact hbB) c1'
          have D2 := Later.cell (w0 := wr) (B := w.heap.size) (by exact hbB) c2'
          by_cases hk0 : k = 0
          · have hT00 : T0 = S := by rw [hT0, if_pos hk0]
            have f1 : decide (0 < (k : Int)) = false := decide_eq_false (by omega)
            have f2 : decide (0 < k) = false := decide_eq_false (by omega)
            subst hT00
            clear K1 K2 hX hY hT1 hT2 hT3 hT0 hx hm hm1 c1 c2 c1' c2' hXz hYz hT0z z1 z2 z3 hS hSz hk0
            go_wp2_with fail
            refine wp_region_under (B := w.heap.size) (w0 := wr) (by kernel_rfl) (by kernel_rfl) (Below.refl _ _) ?_
            repeat (go_big_quiet_step ((first
              | (go_at_call 50; with_reducible exact Calls.under hsz (K1'.out _))
              | (go_at_call 50; with_reducible exact Calls.under hsz (K2'.out _)))))
            refine wpQuiet_nil ?_
            rintro w2 ⟨q, hq⟩
            have hb2 := hb.trans (show Below w.heap.size wr w2 by rw [hq]; exact q.2)
            clear hq q D1 D2 A1 A2 A3 f1 f2
            go_wp2
            go_roundw
            case rel => exact ⟨k + 1, T3, by omega, by go_num, rfl, HF, hz3, hb2⟩
            case measure => simp [intOf]; omega
          · have hT00 : S ++ tx [32] = T0 := by rw [hT0, if_neg hk0]
            have A0 : ∀ W : World, (Op.stringOp .add S ⟨#[32]⟩).run Tryd.prog W = .ok (.string T0) W := add_at S (tx [32]) T0 (by rw [tx_size]; simp; omega) hT00
            have f1 : decide (0 < (k : Int)) = true := decide_eq_true (by omega)
            have f2 : decide (0 < k) = true := decide_eq_true (by omega)
            clear K1 K2 hX hY hT1 hT2 hT3 hT0 hT00 hx hm hm1 c1 c2 c1' c2' hXz hYz hT0z z1 z2 z3 hS hSz hk0
            go_wp2_with fail
            refine wp_region_under (B := w.heap.size) (w0 := wr) (by kernel_rfl) (by kernel_rfl) (Below.refl _ _) ?_
            repeat (go_big_quiet_step ((first
              | (go_at_call 50; with_reducible exact Calls.under hsz (K1'.out _))
              | (go_at_call 50; with_reducible exact Calls.under hsz (K2'.out _)))))
            refine wpQuiet_nil ?_
            rintro w2 ⟨q, hq⟩
            have hb2 := hb.trans (show Below w.heap.size wr w2 by rw [hq]; exact q.2)
            clear hq q D1 D2 A0 A1 A2 A3 f1 f2
            go_wp2
            go_roundw
            case rel => exact ⟨k + 1, T3, by omega, by go_num, rfl, HF, hz3, hb2⟩
            case measure => simp [intOf]; omega
        · obtain rfl : k = n := by omega
          have hE := Lib.hid (show S = tx (coreT l) by rw [hS.out, List.take_of_length_le (by rw [hln.out]; exact Nat.le_refl _), hL.out])
          go_wp2
          go_ret
          exact ⟨ret_str hE.out, hb⟩
end Go.Proofs.YtjbdoohpljffnaaDoor
