/-
  Contracts: the laws' complete and lastLine.
-/
import Derived.Test.YtefadlbfkhndfaaGreatDoorGC
import Derived.Test.YtefadlbfkhndfaaGreatDoorGD
namespace Go.Proofs.YtefadlbfkhndfaaGreatDoor
open Go.RowKit
set_option linter.unusedSimpArgs false
set_option linter.unusedVariables false

theorem no10_drop {t : List UInt8} {q : Nat} {b : UInt8} (hb : t[q]? = some b) (hne : b ≠ 10) (h : (10 : UInt8) ∉ t.drop (q + 1)) : (10 : UInt8) ∉ t.drop q := by
  obtain ⟨hq, e⟩ := List.getElem?_eq_some_iff.1 hb
  rw [List.drop_eq_getElem_cons hq, e]
  intro hm
  rcases List.mem_cons.1 hm with hm | hm
  · exact hne hm.symm
  · exact h hm
set_option maxHeartbeats 2000000 in
theorem complete_any (t : List UInt8) (hl : t.length ≤ 1000000000) (w : World) :
    Calls Tryz.prog 17 #[.string (tx t)] w fun e w' => ∃ r, e = .returned (.string (tx r)) ∧ IsComplete t r ∧ w = w' := by
  have hz : (tx t).size = t.length := tx_size t
  go_enter Tryz.func17, Tryz.ntmps17
  go_wp2_with fail
  go_loopw [3] (fun i wr => ∃ k : Nat, k ≤ t.length ∧ i = .int .i64 k ∧ Hid ((10 : UInt8) ∉ t.drop k) ∧ w = wr) (fun i _ => (intOf i).toNat)
  case atStart => exact ⟨t.length, Nat.le_refl _, by first | rfl | (rw [hz]), Lib.hid (by rw [List.drop_length]; simp), rfl⟩
  case round =>
    obtain ⟨k, hk, rfl, hno, rfl⟩ := hrel
    by_cases h0 : k = 0
    · subst h0
      go_wp2_with fail
      go_ret
      exact ⟨[], rfl, ⟨.inl rfl, t, rfl, by simpa using hno.out⟩, rfl⟩
    · obtain ⟨q, rfl⟩ : ∃ q, k = q + 1 := ⟨k - 1, by omega⟩
      have hlt : q < t.length := by omega
      have ik : (q : Int) < ((tx t).size : Int) := by omega
      have ik0 : (0 : Int) ≤ (q : Int) := by omega
      have ik1 : (0 : Int) < (q : Int) + 1 := by omega
      have ik2 : (q : Int) + 1 ≤ ((tx t).size : Int) := by omega
      obtain ⟨b, hbb⟩ : ∃ b, t[q]? = some b := ⟨t[q], List.getElem?_eq_getElem hlt⟩
      have hbk : ∀ h, (tx t)[q]'h = b := fun h => by
        obtain ⟨_, e⟩ := List.getElem?_eq_some_iff.1 hbb
        exact e
      by_cases hb : b = 10
      · subst hb
        have hx := txdx t 0 (q + 1)
        have HBB := Lib.hid hbb
        clear hbb
        go_wp2_with fail
        go_ret
        refine ⟨t.take (q + 1), ?_, ⟨.inr ⟨t.take q, ?_⟩, t.drop (q + 1), (List.take_append_drop _ _).symm, hno.out⟩, rfl⟩
        · first | rfl | (simp; done) | (simp [hx]; done)
        · rw [List.take_add_one, HBB.out]; rfl
      · have f1 : ((b.toNat : Int) == 10) = false := by
          rw [beq_eq_false_iff_ne]
          intro e
          exact hb (UInt8.toNat_inj.1 (by simpa using Int.ofNat.inj (by simpa using e)))
        have HNO := Lib.hid (no10_drop hbb hb hno.out)
        clear hbb
        go_wp2_with fail
        go_roundw
        case rel => exact ⟨q, by omega, by go_num, HNO, by first | rfl | trivial⟩
        case measure => simp [intOf]
set_option maxHeartbeats 2000000 in
theorem lastLine_any (a e : List UInt8) (hL : IsLast a e) (hl : a.length ≤ 1000000000) (w : World) :
    Calls Tryz.prog 18 #[.string (tx a)] w fun r w' => r = .returned (.string (tx e)) ∧ w = w' := by
  obtain ⟨x, hax, hx, y, hey, hy⟩ := hL
  have hz : (tx a).size = a.length := tx_size a
  have hla : a.length = x.length + (y.length + 1) := by rw [hax, hey]; simp
  have hat : ∀ q, x.length ≤ q → q < x.length + y.length → ∃ b, a[q]? = some b ∧ b ≠ 10 := fun q h1 h2 => by
    refine ⟨y[q - x.length]'(by omega), ?_, fun h => hy (h ▸ List.getElem_mem _)⟩
    rw [hax, hey, List.getElem?_append_right h1, List.getElem?_append_left (by omega)]
    exact List.getElem?_eq_getElem _
  have hxe : ∀ q, x.length = q + 1 → a[q]? = some 10 ∧ a.drop (q + 1) = e := fun q hq => by
    refine ⟨?_, by rw [hax, ← hq, List.drop_left]⟩
    rcases hx with hx | ⟨x', hx⟩
    · rw [hx] at hq; simp at hq
    · rw [hax, List.getElem?_append_left (by omega), hx]
      rw [hx] at hq; simp at hq
      rw [← hq]; simp
  have hx0 : x.length = 0 → a = e := fun h => by rw [hax, List.length_eq_zero_iff.1 h]; rfl
  have HAT := Lib.hid hat
  have HXE := Lib.hid hxe
  have HX0 := Lib.hid hx0
  have HLA := Lib.hid hla
  have i0 : ((tx a).size : Int) - 2 = ((x.length + y.length : Nat) : Int) - 1 := by omega
  have s2 : 1 ≤ a.length := by omega
  clear hat hxe hx0 hx hy hax hey hla
  go_enter Tryz.func18, Tryz.ntmps18
  go_wp2_with fail
  go_loopw [3] (fun i wr => ∃ k : Nat, x.length ≤ k ∧ k ≤ x.length + y.length ∧ i = .int .i64 ((k : Int) - 1) ∧ w = wr) (fun i _ => (intOf i + 1).toNat)
  case atStart => exact ⟨x.length + y.length, by omega, Nat.le_refl _, by have := HLA.out; go_num, rfl⟩
  case round =>
    obtain ⟨k, hk0, hk, rfl, rfl⟩ := hrel
    by_cases h0 : k = 0
    · subst h0
      go_wp2_with fail
      go_ret
      exact ⟨congrArg (fun z => Ending.returned (.string (tx z))) (HX0.out (by omega)), rfl⟩
    · obtain ⟨q, rfl⟩ : ∃ q, k = q + 1 := ⟨k - 1, by omega⟩
      have hlt : q < a.length := by have := HLA.out; omega
      have ik : (q : Int) < ((tx a).size : Int) := by omega
      have ik0 : (0 : Int) ≤ (q : Int) := by omega
      have ik2 : (q : Int) + 1 ≤ ((tx a).size : Int) := by omega
      by_cases hq : x.length = q + 1
      · obtain ⟨hb, hd⟩ := HXE.out q hq
        have hbk : ∀ h, (tx a)[q]'h = 10 := fun h => by
          obtain ⟨_, e⟩ := List.getElem?_eq_some_iff.1 hb
          exact e
        have hx2 : (tx a).extract (q + 1) (tx a).size = tx e := by
          rw [txdx, hz, hd]
          congr 1
          apply List.take_of_length_le
          rw [← hd]; simp
        clear hb hd
        go_wp2_with fail
        go_ret
        exact ⟨ret_str (by first | exact hx2 | (rw [← hz]; exact hx2) | (rw [hz] at hx2; exact hx2)), rfl⟩
      · obtain ⟨b, hbb, hb⟩ := HAT.out q (by omega) (by omega)
        have hbk : ∀ h, (tx a)[q]'h = b := fun h => by
          obtain ⟨_, e⟩ := List.getElem?_eq_some_iff.1 hbb
          exact e
        have f1 : ((b.toNat : Int) == 10) = false := by
          rw [beq_eq_false_iff_ne]
          intro e
          exact hb (UInt8.toNat_inj.1 (by simpa using Int.ofNat.inj (by simpa using e)))
        clear hbb
        go_wp2_with fail
        go_roundw
        case rel => exact ⟨q, by omega, by omega, by first | rfl | go_num, by first | rfl | trivial⟩
        case measure => first | (simp [intOf]; done) | (simp [intOf]; omega)
end Go.Proofs.YtefadlbfkhndfaaGreatDoor
