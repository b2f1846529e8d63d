/-
  Contracts: the reference's l1Digits and l43Cut.
-/
import Derived.Test.YtjbdoohpljffnaaDoorSplitP
import Derived.Test.YtjbdoohpljffnaaDoorCurveP
import Derived.Test.YtjbdoohpljffnaaDoorCoreText
import Derived.BigQuiet
namespace Go.Proofs.YtjbdoohpljffnaaDoor
open Go.RowKit
set_option linter.unusedSimpArgs false
set_option linter.unusedVariables false

theorem txdd (l : List UInt8) : (tx l).data.toList = l := by simp [tx]
theorem decFrom_take1 {l : List UInt8} {k acc : Nat} {b : UInt8} (h : Lib.decFrom 0 (l.take k) = some acc) (hb : l[k]? = some b) :
    Lib.decFrom 0 (l.take (k + 1)) = (Lib.digitVal b).map fun d => acc * 10 + d := by
  rw [take_snoc hb, decFrom_append, h]
  simp only [Option.bind, Lib.decFrom]
  cases Lib.digitVal b <;> rfl
theorem decFrom_bad {l : List UInt8} {k : Nat} (h : Lib.decFrom 0 (l.take k) = none) : Lib.decFrom 0 l = none := by
  rw [← List.take_append_drop k l, decFrom_append, h]; rfl

set_option maxRecDepth 100000 in
set_option maxHeartbeats 2000000 in
theorem l1Digits_any (l : List UInt8) (hl : l.length ≤ 1000000000) (w : World) :
    Calls Tryd.prog 75 #[.string (tx l)] w fun e w' => e = .returned (.int .i64 (dig l)) ∧ w = w' := by
  have C0 := fun r hr => l6In_any ((tx l).size : Int) 1 6 r hr w
  have hz : (tx l).size = l.length := tx_size l
  by_cases h16 : 1 ≤ l.length ∧ l.length ≤ 6
  · have C := Lib.hid (C0 true (by rw [hz]; exact decide_eq_true (by omega)))
    have hD1 := Lib.hid (fun n (h : Lib.decFrom 0 l = some n) => show dig l = (n : Int) by unfold dig; rw [if_pos h16, h])
    have hD2 := Lib.hid (fun (h : Lib.decFrom 0 l = none) => show dig l = -1 by unfold dig; rw [if_pos h16, h])
    clear C0
    go_enter Tryd.func75, Tryd.ntmps75
    go_wp2_with (go_at_call 80; refine C.out.mono ?_; rintro e w' ⟨rfl, rfl⟩)
    clear C
    go_loopw [3, 4] (fun s i wr => wr = w ∧ ∃ (k acc : Nat), k ≤ l.length ∧ i = .int .i64 k ∧ s = .int .i64 acc ∧ Lib.decFrom 0 (l.take k) = some acc) (fun _ i _ => l.length - (intOf i).toNat)
    case atStart => exact ⟨rfl, 0, 0, Nat.zero_le _, rfl, rfl, rfl⟩
    case round =>
      obtain ⟨rfl, k, acc, hk, rfl, rfl, ha⟩ := hrel
      by_cases hlt : k < l.length
      · have ik : (k : Int) < ((tx l).size : Int) := by omega
        have ik0 : (0 : Int) ≤ (k : Int) := by omega
        obtain ⟨b, hb⟩ : ∃ b, l[k]? = some b := ⟨l[k], List.getElem?_eq_getElem hlt⟩
        have hbk : ∀ h, (tx l)[k]'h = b := fun h => by
          have := List.getElem?_eq_some_iff.1 hb
          obtain ⟨_, e⟩ := this
          exact e
        have hstep := decFrom_take1 ha hb
        have hacc0 := Lib.decFrom_lt (l.take k) 0 acc ha
        have hp6 : 10 ^ (l.take k).length ≤ 10 ^ 6 := Nat.pow_le_pow_right (by decide) (by rw [List.length_take]; omega)
        have hacc : acc ≤ 1000000 := by
          have e6 : (10 : Nat) ^ 6 = 1000000 := by decide
          omega
        clear hacc0 hp6 ha
        rcases (show b.toNat < 48 ∨ 57 < b.toNat ∨ (48 ≤ b.toNat ∧ b.toNat ≤ 57) by omega) with hc | hc | ⟨hc1, hc2⟩
        · have hd : Lib.digitVal b = none := by unfold Lib.digitVal; rw [if_neg (by omega)]
          rw [hd] at hstep
          have f1 : (b.toNat : Int) < 48 := by omega
          go_wp2_with fail
          go_ret
          exact ⟨ret_int (hD2.out (decFrom_bad hstep)).symm, rfl⟩
        · have hd : Lib.digitVal b = none := by unfold Lib.digitVal; rw [if_neg (by omega)]
          rw [hd] at hstep
          have f1 : ¬ ((b.toNat : Int) < 48) := by omega
          have f2 : 57 < (b.toNat : Int) := by omega
          go_wp2_with fail
          go_ret
          exact ⟨ret_int (hD2.out (decFrom_bad hstep)).symm, rfl⟩
        · have hd : Lib.digitVal b = some (b.toNat - 48) := by unfold Lib.digitVal; rw [if_pos (by omega)]
          rw [hd] at hstep
          have f1 : ¬ ((b.toNat : Int) < 48) := by omega
          have f2 : ¬ (57 < (b.toNat : Int)) := by omega
          obtain ⟨d, hdd⟩ : ∃ d : Nat, b.toNat = 48 + d := ⟨b.toNat - 48, by omega⟩
          rw [show b.toNat - 48 = d by omega] at hstep
          have hd9 : d ≤ 9 := by omega
          have e1 : (b.toNat : Int) - 48 = (d : Int) := by omega
          have e2 : wrap64 (10 * (acc : Int)) = 10 * (acc : Int) := w64 ⟨by omega, by omega⟩
          have e3 : wrap64 (10 * (acc : Int) + (d : Int)) = ((acc * 10 + d : Nat) : Int) := by rw [w64 ⟨by omega, by omega⟩]; omega
          clear hd hdd
          go_wp2_with fail
          refine ⟨⟨trivial, k + 1, acc * 10 + d, by omega, by go_num, ?_, hstep⟩, by simp [intOf]; omega⟩
          first | (rw [e1, e2, e3]; done) | (congr 1; omega) | (rw [e1]; congr 1; omega)
      · obtain rfl : k = l.length := by omega
        have hE := Lib.hid (show dig l = (acc : Int) by rw [List.take_of_length_le (Nat.le_refl _)] at ha; exact hD1.out _ ha)
        have ik : ¬ ((l.length : Int) < ((tx l).size : Int)) := by omega
        go_wp2
        go_ret
        exact ⟨ret_int hE.out.symm, rfl⟩
  · have C := Lib.hid (C0 false (by rw [hz]; exact decide_eq_false (by omega)))
    have hD := Lib.hid (show dig l = -1 by unfold dig; rw [if_neg h16])
    clear C0
    go_enter Tryd.func75, Tryd.ntmps75
    go_wp2_with (go_at_call 80; refine C.out.mono ?_; rintro e w' ⟨rfl, rfl⟩)
    go_ret
    exact ⟨ret_int hD.out.symm, rfl⟩

/-! ### Lines and words -/
theorem txdx (l : List UInt8) (a b : Nat) : (tx l).extract a b = tx ((l.drop a).take (b - a)) := by
  apply ByteArray.ext
  apply Array.toList_inj.1
  rw [Lib.extract_data, txdd, txdd]
/-- The walk of a text, byte by byte: what has been cut off, and what is begun. -/
def CutAt (c : UInt8) (l : List UInt8) (f k : Nat) (D : List (List UInt8)) : Prop := splitB c l = D ++ preS ((l.drop f).take (k - f)) (splitB c (l.drop k))
theorem CutAt.start (c : UInt8) (l : List UInt8) : CutAt c l 0 0 [] := by unfold CutAt; rw [List.drop_zero, List.nil_append]; simp only [Nat.sub_self, List.take_zero]; rw [preS_nil (splitB_ne c l)]
theorem CutAt.hit {c : UInt8} {l : List UInt8} {f k : Nat} {D : List (List UInt8)} (h : CutAt c l f k D) (hk : l[k]? = some c) : CutAt c l (k + 1) (k + 1) (D ++ [(l.drop f).take (k - f)]) := by
  unfold CutAt at h ⊢
  rw [h, splitB_step hk, if_pos rfl]
  simp only [Nat.sub_self, List.take_zero]
  rw [preS_nil (splitB_ne _ _), preS, List.append_nil]
  simp
theorem CutAt.miss {c b : UInt8} {l : List UInt8} {f k : Nat} {D : List (List UInt8)} (h : CutAt c l f k D) (hk : l[k]? = some b) (hb : b ≠ c) (hf : f ≤ k) : CutAt c l f (k + 1) D := by
  unfold CutAt at h ⊢
  rw [h, splitB_step hk, if_neg hb, preS_pre _ _ (splitB_ne _ _)]
  congr 2
  rw [show k + 1 - f = (k - f) + 1 by omega, List.take_add_one, List.getElem?_drop, show f + (k - f) = k by omega, hk]
  rfl
theorem CutAt.fin {c : UInt8} {l : List UInt8} {f k : Nat} {D : List (List UInt8)} (h : CutAt c l f k D) (hk : k = l.length) : splitB c l = D ++ [l.drop f] := by
  unfold CutAt at h
  rw [h, show l.drop k = [] from List.drop_of_length_le (by omega), splitB, preS, List.append_nil, List.take_of_length_le (by rw [List.length_drop]; omega)]

set_option maxRecDepth 100000 in
set_option maxHeartbeats 4000000 in
theorem l43Cut_any (l : List UInt8) (c : UInt8) (hl : l.length ≤ 1000000000) (w : World) :
    Calls Tryd.prog 74 #[.string (tx l), .int .u8 c.toNat] w fun e w' => ∃ A' n' c', e = .returned (.slice A' n' c') ∧ Own ST 1 w' w.heap.size 9 (.slice A' n' c') n' ((splitB c l).map tx) ∧ Below w.heap.size w w' := by
  obtain ⟨i0, hi, hz0, hz1, hz2⟩ := info_parts infoStr
  have hz : (tx l).size = l.length := tx_size l
  go_enter Tryd.func74, Tryd.ntmps74
  go_wp2_with fail
  go_loopw [5, 6, 7] (fun s f i wr => ∃ (k fr : Nat) (D : List (List UInt8)), k ≤ l.length ∧ fr ≤ k ∧ i = .int .i64 k ∧ f = .int .i64 fr ∧ D.length ≤ k ∧ Own ST 1 wr w.heap.size 9 s D.length (D.map tx) ∧ CutAt c l fr k D ∧ Below w.heap.size w wr) (fun _ _ i _ => l.length - (intOf i).toNat)
  case atStart => exact ⟨0, 0, [], Nat.zero_le _, Nat.le_refl _, rfl, rfl, Nat.le_refl _, Own.made _ _ _ _ _ (Nat.le_refl _), CutAt.start c l, (Below.refl _ w).alloc (Nat.le_refl _) _⟩
  case round =>
    obtain ⟨k, fr, D, hk, hfr, rfl, rfl, hDk, hw, hC, hb⟩ := hrel
    obtain ⟨A0, c0, rfl, _, _⟩ := hw.form
    by_cases hlt : k < l.length
    · have ik : (k : Int) < ((tx l).size : Int) := by omega
      have ik0 : (0 : Int) ≤ (k : Int) := by omega
      obtain ⟨b, hbb⟩ : ∃ b, l[k]? = some b := ⟨l[k], List.getElem?_eq_getElem hlt⟩
      have hbk : ∀ h, (tx l)[k]'h = b := fun h => by
        obtain ⟨_, e⟩ := List.getElem?_eq_some_iff.1 hbb
        exact e
      by_cases hbc : b = c
      · subst hbc
        have hfk : (fr : Int) ≤ (k : Int) := by omega
        have hkz : k ≤ (tx l).size := by omega
        obtain ⟨X, hX⟩ : ∃ X, X = (l.drop fr).take (k - fr) := ⟨_, rfl⟩
        have hx := txdx l fr k
        rw [← hX] at hx
        have hC' := hC.hit hbb
        rw [← hX] at hC'
        have hsz := hb.size
        have HL := hw.1
        clear hC hX hbb
        have K1 := cell_new1 wr (.string (tx X)) 9
        have K2 := one_ST (tx X)
        have K3 : D.length + 1 ≤ maxLen := by unfold maxLen; omega
        have K4 : (D.length + 1) * 16 ≤ 140737488355328 := by omega
        have K5 : w.heap.size ≤ (wr.alloc (.cells #[.string (tx X)] 9)).heap.size := by simp; omega
        go_wp2_with (at_builtin; (refine wpList_append_own _ rfl _ _ 89 rfl w.heap.size 9 i0 (.string ⟨#[]⟩) 1 16 Tryd.underlying89 hi hz0 hz1 hz2 rfl (by decide) _ _ _ rfl (hw.2.alloc _) ⟨wr.heap.size, 0, none⟩ 1 1 [.string (tx X)] rfl rfl K1 K2 K3 K4 K5 ?_))
        intro v' w4 hown' hg4 _
        have hw4 : Own ST 1 w4 w.heap.size 9 v' (D ++ [X]).length ((D ++ [X]).map tx) := by
          have := Own.snoc (x := tx X) HL hown'
          rw [List.map_append, List.length_append]
          exact this
        have hb4 : Below w.heap.size w w4 := (hb.alloc hsz (.cells #[.string (tx X)] 9)).grown hg4 (by simp; omega) (fun j hj => (hw.2.lt j hj).1)
        clear hw hown' hg4 hb
        go_wp2
        go_roundw
        case rel => exact ⟨k + 1, k + 1, D ++ [X], by omega, Nat.le_refl _, by go_num, by go_num, by simp; omega, hw4, hC', hb4⟩
        case measure => simp [intOf]; omega
      · have f1 : ((b.toNat : Int) == (c.toNat : Int)) = false := by
          rw [beq_eq_false_iff_ne]
          intro e
          exact hbc (UInt8.toNat_inj.1 (by omega))
        have hC' := hC.miss hbb hbc hfr
        go_wp2_with fail
        go_roundw
        case rel => exact ⟨k + 1, fr, D, by omega, by omega, by go_num, rfl, by omega, hw, hC', hb⟩
        case measure => simp [intOf]; omega
    · obtain rfl : k = l.length := by omega
      have ik : ¬ ((l.length : Int) < ((tx l).size : Int)) := by omega
      have hfk : (fr : Int) ≤ (l.length : Int) := by omega
      have hkz : fr ≤ (tx l).size := by omega
      have hx := txdx l fr l.length
      rw [List.take_of_length_le (by rw [List.length_drop]; omega)] at hx
      have hC' := hC.fin rfl
      obtain ⟨X, hX⟩ : ∃ X, X = l.drop fr := ⟨_, rfl⟩
      rw [← hX] at hx hC'
      have hsz := hb.size
      have HL := hw.1
      clear hC hX
      have K1 := cell_new1 wr (.string (tx X)) 9
      have K2 := one_ST (tx X)
      have K3 : D.length + 1 ≤ maxLen := by unfold maxLen; omega
      have K4 : (D.length + 1) * 16 ≤ 140737488355328 := by omega
      have K5 : w.heap.size ≤ (wr.alloc (.cells #[.string (tx X)] 9)).heap.size := by simp; omega
      go_wp2_with (at_builtin; (refine wpList_append_own _ rfl _ _ 89 rfl w.heap.size 9 i0 (.string ⟨#[]⟩) 1 16 Tryd.underlying89 hi hz0 hz1 hz2 rfl (by decide) _ _ _ rfl (hw.2.alloc _) ⟨wr.heap.size, 0, none⟩ 1 1 [.string (tx X)] rfl rfl K1 K2 K3 K4 K5 ?_))
      intro v' w4 hown' hg4 _
      have hw4 : Own ST 1 w4 w.heap.size 9 v' (D.length + 1) ((splitB c l).map tx) := by
        have := Own.snoc (x := tx X) HL hown'
        rw [hC', List.map_append]
        exact this
      have hb4 : Below w.heap.size w w4 := (hb.alloc hsz (.cells #[.string (tx X)] 9)).grown hg4 (by simp; omega) (fun j hj => (hw.2.lt j hj).1)
      obtain ⟨A1, c1, rfl, _, _⟩ := hw4.form
      clear hw hown' hg4 hb
      go_wp2
      go_ret
      exact ⟨_, _, _, rfl, hw4, hb4⟩
end Go.Proofs.YtjbdoohpljffnaaDoor
