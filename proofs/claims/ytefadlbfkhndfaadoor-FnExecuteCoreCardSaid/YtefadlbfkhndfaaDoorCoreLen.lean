/-
  Contracts: CoreLength of the program and of the reference.
-/
import Derived.Test.YtefadlbfkhndfaaDoorCoreV
import Derived.Test.YtefadlbfkhndfaaDoorPlainX
import Derived.RegionTactic
namespace Go.Proofs.YtefadlbfkhndfaaDoor
open Go.RowKit
set_option linter.unusedSimpArgs false
set_option linter.unusedVariables false

set_option maxHeartbeats 400000 in
theorem implCoreLength_any (A : Option Addr) (n c : Nat) (l : List Pc) (w : World) (h : Arr PP 2 w w.heap.size A n l) (hn : n ≤ 1099511627776) :
    Calls Tryd.prog 13 #[.slice A n c] w fun e w' => e = .returned (.int .i64 (coreLen l)) ∧ Below w.heap.size w w' := by
  have hln := Lib.hid h.1
  have C := implCoreValid_any A n c l w h hn
  cases hB : coreB l with
  | false =>
    rw [hB] at C
    have C' := Lib.hid C
    have hL := Lib.hid (coreLen_bad hB)
    clear C hB
    go_enter Tryd.func13, Tryd.ntmps13
    go_wp2_with fail
    refine C'.out.mono ?_
    rintro e w1 ⟨rfl, hb⟩
    go_wp2
    go_ret
    exact ⟨ret_int hL.out.symm, hb⟩
  | true =>
    rw [hB] at C
    have C' := Lib.hid C
    have hL := Lib.hid (coreLen_good hB)
    have hF := Lib.hid ((coreB_iff l).1 hB).1
    clear C hB
    go_enter Tryd.func13, Tryd.ntmps13
    go_wp2_with fail
    refine C'.out.mono ?_
    rintro e w1 ⟨rfl, hb1⟩
    clear C'
    go_wp2
    go_loopw [3, 11] (fun s i wr => ∃ k : Nat, k ≤ n ∧ i = .int .i64 k ∧ s = .int .i64 (lenOf (l.take k)) ∧ Below w.heap.size w wr) (fun _ i _ => n - (intOf i).toNat)
    case atStart => exact ⟨0, Nat.zero_le _, rfl, rfl, hb1⟩
    case round =>
      obtain ⟨k, hk, rfl, rfl, hb⟩ := hrel
      by_cases hlt : k < n
      · obtain ⟨b, off, x, y, rfl, hbB, hx, c1, c2⟩ := h.pair hlt
        have c1' := (hb.cell (by exact hbB)).trans c1
        have c2' := (hb.cell (by exact hbB)).trans c2
        have hm := coreFrom_mem hF.out _ (List.mem_of_getElem? hx)
        have h0 : (0 : Int) ≤ x := hm.1
        have h1 : x < y := hm.2.1
        have h2 : y ≤ 30000 := hm.2.2
        have hS : Hid (lenOf (l.take (k + 1)) = lenOf (l.take k) + (y - x)) := by rw [List.take_add_one, hx]; exact lenOf_snoc _ _ _
        have hbd := lenOf_bd' (coreFrom_take k hF.out)
        obtain ⟨S, hSS⟩ : ∃ S, S = lenOf (l.take k) := ⟨_, rfl⟩
        rw [← hSS] at hS hbd ⊢
        clear hm hx c1 c2 hSS
        go_wp2
        go_roundw
        case rel => exact ⟨k + 1, by omega, by go_num, by rw [hS.out], hb.alloc (by have := hb.size; omega) _⟩
        case measure => simp [intOf]; omega
      · have htk : l.take k = l := List.take_of_length_le (by rw [hln.out]; omega)
        have ht := Lib.hid htk
        clear htk
        go_wp2
        go_ret
        exact ⟨ret_int (by rw [hL.out, ht.out]), hb⟩

theorem lenOf_take_succ {l : List Pc} {k : Nat} {x y : Int} (h : l[k]? = some (x, y)) : lenOf (l.take (k + 1)) = lenOf (l.take k) + (y - x) := by
  rw [take_snoc h, lenOf_snoc]

set_option maxHeartbeats 400000 in
theorem specCoreLength_any (A : Option Addr) (n c : Nat) (l : List Pc) (w : World) (h : Arr PP 2 w w.heap.size A n l) (hn : n ≤ 1099511627776) :
    Calls Tryd.prog 14 #[.slice A n c] w fun e w' => e = .returned (.int .i64 (coreLen l)) ∧ Below w.heap.size w w' := by
  have hln := Lib.hid h.1
  have C := specCoreValid_any A n c l w h hn
  cases hB : coreB l with
  | false =>
    rw [hB] at C
    have C' := Lib.hid C
    have hL := Lib.hid (coreLen_bad hB)
    clear C hB
    go_enter Tryd.func14, Tryd.ntmps14
    go_wp2_with fail
    refine C'.out.mono ?_
    rintro e w1 ⟨rfl, hb⟩
    go_wp2
    go_ret
    exact ⟨ret_int hL.out.symm, hb⟩
  | true =>
    rw [hB] at C
    have C' := Lib.hid C
    have hL := Lib.hid (coreLen_good hB)
    have hF := Lib.hid ((coreB_iff l).1 hB).1
    clear C hB
    go_enter Tryd.func14, Tryd.ntmps14
    go_wp2_with fail
    refine C'.out.mono ?_
    rintro e w1 ⟨rfl, hb1⟩
    clear C'
    go_wp2
    go_loopw [3, 4] (fun s i wr => ∃ k : Nat, k ≤ n ∧ i = .int .i64 k ∧ s = .int .i64 (lenOf (l.take k)) ∧ Below w.heap.size w wr) (fun _ i _ => n - (intOf i).toNat)
    case atStart => exact ⟨0, Nat.zero_le _, rfl, rfl, hb1⟩
    case round =>
      obtain ⟨k, hk, rfl, rfl, hb⟩ := hrel
      by_cases hlt : k < n
      · obtain ⟨b, off, x, y, rfl, hbB, hx, c1, c2⟩ := h.pair hlt
        have c1' := (hb.cell (by exact hbB)).trans c1
        have c2' := (hb.cell (by exact hbB)).trans c2
        have hm := coreFrom_mem hF.out _ (List.mem_of_getElem? hx)
        have h0 : (0 : Int) ≤ x := hm.1
        have h1 : x < y := hm.2.1
        have h2 : y ≤ 30000 := hm.2.2
        have hS := Lib.hid (lenOf_take_succ hx)
        have hbd := lenOf_bd' (coreFrom_take k hF.out)
        have hlt' : (k : Int) < (n : Int) := by omega
        obtain ⟨S, hSS⟩ : ∃ S, S = lenOf (l.take k) := ⟨_, rfl⟩
        rw [← hSS] at hS hbd ⊢
        have B1 : 0 ≤ S + y ∧ S + y ≤ 4611686018427387904 := by omega
        have B2 : 0 ≤ S + y - x ∧ S + y - x ≤ 4611686018427387904 := by omega
        clear hm hx c1 c2 hSS
        have e1 : wrap64 (S + y) = S + y := w64 B1
        have e2 : wrap64 (S + y - x) = S + y - x := w64 B2
        clear B1 B2
        go_wp2_with fail
        go_quiet (fail)
        clear e1 e2
        have hb2 := below_drewN hb nq
        go_wp2
        go_roundw
        case rel => exact ⟨k + 1, by omega, by go_num, by rw [hS.out]; first | go_num | (congr 1; omega), hb2⟩
        case measure => simp [intOf]; omega
      · have htk : l.take k = l := List.take_of_length_le (by rw [hln.out]; omega)
        have ht := Lib.hid htk
        clear htk
        go_wp2
        go_ret
        exact ⟨ret_int (by rw [hL.out, ht.out]), hb⟩

end Go.Proofs.YtefadlbfkhndfaaDoor
