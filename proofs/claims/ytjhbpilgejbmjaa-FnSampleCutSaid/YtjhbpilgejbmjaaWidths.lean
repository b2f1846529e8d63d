/-
  Contracts: widthsOf, sumOf.
-/
import Derived.Test.YtjhbpilgejbmjaaPlainS
namespace Go.Proofs.Ytjhbpilgejbmjaa
open Go.RowKit
set_option linter.unusedSimpArgs false
set_option linter.unusedVariables false

theorem infoInt : (Try.prog.info? 3).map (fun i => (i.zero, i.size, i.bytes)) = some (some (.int .i64 0), 1, 8) := by kernel_rfl

set_option maxHeartbeats 1000000 in
theorem widthsOf_any (A : Option Addr) (n c : Nat) (l : List (Int × Int)) (w : World) (h : Arr PP 2 w w.heap.size A n l) (hall : l.all okOrder = true) (hn : n ≤ 1000) :
    Calls Try.prog 19 #[.slice A n c] w (RetOwn II 1 3 w (widths l).length (widths l)) := by
  obtain ⟨i0, hi, hz0, hz1, hz2⟩ := info_parts infoInt
  have hall' := Lib.hid hall; clear hall
  have hl := Lib.hid h.1
  go_enter Try.func19, Try.ntmps19
  go_wp2
  go_loopw [3, 4] (fun v i wr => ∃ k : Nat, k ≤ n ∧ i = .int .i64 k ∧ Own II 1 wr w.heap.size 3 v (widths (l.take k)).length (widths (l.take k)) ∧ Below w.heap.size w wr) (fun _ i _ => n - (intOf i).toNat)
  case atStart => exact ⟨0, Nat.zero_le _, rfl, Own.made II 1 w w.heap.size _ (Nat.le_refl _), (Below.refl _ _).alloc (Nat.le_refl _) _⟩
  case round =>
    obtain ⟨k, hk, rfl, hw, hb⟩ := hrel
    by_cases hlt : k < n
    · obtain ⟨b, off, x, y, rfl, hbB, hx, c1, c2⟩ := h.pair hlt
      have hok := (okOrder_iff x y).1 (List.all_eq_true.1 hall'.out _ (List.mem_of_getElem? hx))
      have hsn : Hid (widths (l.take (k + 1)) = widths (l.take k) ++ List.replicate y.toNat x) := by rw [take_snoc hx, widths_snoc]; rfl
      have hwb : (widths (l.take k)).length ≤ 20 * k := by
        have := widths_bd (l := l.take k) (by rw [List.all_eq_true]; intro z hz; exact List.all_eq_true.1 hall'.out z (List.mem_of_mem_take hz))
        have h2 := List.length_take_le k l
        omega
      obtain ⟨m, hm⟩ : ∃ m, m = (widths (l.take k)).length := ⟨_, rfl⟩
      obtain ⟨W, hW⟩ : ∃ W, W = widths (l.take k) := ⟨_, rfl⟩
      rw [← hm, ← hW] at hw
      rw [← hm] at hwb
      rw [← hW] at hsn
      clear hm hW hx
      obtain ⟨y, rfl⟩ : ∃ z : Nat, y = (z : Int) := ⟨y.toNat, by omega⟩
      obtain ⟨wo, rfl⟩ : ∃ wo : World, wo = wr := ⟨_, rfl⟩
      go_wp2
      go_loopw [3, 5] (fun v i wr => ∃ j : Nat, j ≤ y ∧ i = .int .i64 j ∧ Own II 1 wr w.heap.size 3 v (m + j) (W ++ List.replicate j x) ∧ Below w.heap.size w wr) (fun _ i _ => y - (intOf i).toNat)
      case atStart => exact ⟨0, Nat.zero_le _, rfl, by simpa using hw, hb⟩
      case round =>
        obtain ⟨j, hj, rfl, hw1, hb1⟩ := hrel
        have c1' := (hb1.cell (by exact hbB)).trans c1
        have c2' := (hb1.cell (by exact hbB)).trans c2
        by_cases hjy : j < y
        · go_wp2_with (at_builtin; refine wpList_append_own _ rfl _ _ 27 rfl w.heap.size 3 i0 (.int .i64 0) 1 8 Try.underlying27 hi hz0 hz1 hz2 rfl (by decide) _ _ _ rfl (hw1.2.alloc _) ⟨wr.heap.size, 0, none⟩ 1 1 [.int .i64 x] rfl rfl ?c1 ?c2 ?c3 ?c4 ?c5 ?_)
          case c1 => exact cell_new1 _ _ _
          case c2 => exact one_II _
          case c3 => unfold maxLen; omega
          case c4 => omega
          case c5 => have := hb1.size; simp; omega
          intro v' w4 hown' hg4 _
          have hw4 : Own II 1 w4 w.heap.size 3 v' (m + j + 1) (W ++ List.replicate j x ++ [x]) := Own.snoc' hw1.1 (by simp [II]) hown'
          have hb4 := (hb1.alloc hb1.size (.cells #[.int .i64 x] 3)).grown hg4 (by have := hb1.size; simp; omega) (fun j hj => (hw1.2.lt j hj).1)
          clear hw1 hown' hg4
          go_wp2
          go_roundw
          case rel => exact ⟨j + 1, by omega, by go_num, by rw [List.replicate_succ', ← List.append_assoc]; exact hw4, hb4⟩
          case measure => simp [intOf]; omega
        · obtain rfl : j = y := by omega
          have hE := hw1.relen (l' := widths (l.take (k + 1))) (by rw [hsn.out, Int.toNat_natCast])
          clear hw1 hw hsn
          go_wp2
          go_roundw
          case rel => exact ⟨k + 1, by omega, by go_num, hE, hb1⟩
          case measure => simp [intOf]; omega
    · have htk : l.take k = l := List.take_of_length_le (by rw [hl.out]; omega)
      rw [htk] at hw
      obtain ⟨A1, c1, rfl, _, _⟩ := hw.form
      clear htk
      go_wp2
      go_ret
      exact ⟨_, _, rfl, hw, hb⟩
end Go.Proofs.Ytjhbpilgejbmjaa
