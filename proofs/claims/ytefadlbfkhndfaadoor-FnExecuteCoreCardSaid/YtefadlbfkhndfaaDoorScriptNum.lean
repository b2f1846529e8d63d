/-
  Contract: the program's scriptNumber.
-/
import Derived.Test.YtefadlbfkhndfaaDoorSplitP
import Derived.Test.YtefadlbfkhndfaaDoorShelf
import Derived.Lib.SmallJoins
namespace Go.Proofs.YtefadlbfkhndfaaDoor
open Go.RowKit
set_option linter.unusedSimpArgs false
set_option linter.unusedVariables false

theorem txnl (l : List UInt8) : (tx l).data.toList = l := by simp [tx]
theorem sn_take1 {l : List UInt8} {k acc : Nat} {b : UInt8} (h : Lib.decFrom 0 (l.take k) = some acc) (hb : l[k]? = some b) :
    Lib.decFrom 0 (l.take (k + 1)) = (Lib.digitVal b).map fun d => acc * 10 + d := by
  rw [take_snoc hb, decFrom_append, h]
  simp only [Option.bind, Lib.decFrom]
  cases Lib.digitVal b <;> rfl
theorem sn_bad {l : List UInt8} {k : Nat} (h : Lib.decFrom 0 (l.take k) = none) : Lib.decFrom 0 l = none := by
  rw [← List.take_append_drop k l, decFrom_append, h]; rfl

theorem atoi_dec6 {u : Nat} (h : u ≤ 999999) : Lib.atoi (Lib.decDigits u) = some (u : Int) := by
  have hm := dec_mem u
  have hd := decFrom_dec u
  cases hl : Lib.decDigits u with
  | nil => exact absurd hl (dec_ne u)
  | cons b r =>
    rw [hl] at hm hd
    have hb := hm b List.mem_cons_self
    have n1 : ¬ ((b == 45) = true) := fun e => by rw [show b = 45 by simpa using e] at hb; revert hb; decide
    have n2 : ¬ ((b == 43) = true) := fun e => by rw [show b = 43 by simpa using e] at hb; revert hb; decide
    rw [Lib.atoi, if_neg n1, if_neg n2, Lib.decNat, if_neg (by simp), hd]
    rfl
theorem dig_dec6 {u : Nat} (h : u ≤ 999999) : dig (Lib.decDigits u) = u := by
  unfold dig
  rw [if_pos ⟨dec_pos u, dec_len 5 u (by omega)⟩, decFrom_dec]

set_option maxRecDepth 100000 in
set_option maxHeartbeats 2000000 in
/-- A word of one to six digits. (An empty word ends in an error of strconv's: not here.) -/
theorem scriptNumber_dig (u : Nat) (hu : u ≤ 999999) (w : World) :
    Calls Tryd.prog 35 #[.string (tx (Lib.decDigits u))] w fun e w' => e = .returned (.int .i64 u) ∧ Below w.heap.size w w' := by
  obtain ⟨l, hl⟩ : ∃ l, l = Lib.decDigits u := ⟨_, rfl⟩
  have hlen : l.length ≤ 6 := by rw [hl]; exact dec_len 5 u (by omega)
  have hmem : ∀ b ∈ l, 48 ≤ b.toNat ∧ b.toNat ≤ 57 := by rw [hl]; exact dec_mem u
  have hat : Lib.atoi (tx l).data.toList = some (u : Int) := by rw [txnl, hl]; exact atoi_dec6 hu
  have hz : (tx l).size = l.length := tx_size l
  have A := Lib.hid (fun W => Tryd.strconv_Atoi (tx l) (u : Int) (by omega) hat W)
  have HM := Lib.hid hmem
  rw [← hl]
  clear hl hat hmem
  have f0 : ¬ (6 < ((tx l).size : Int)) := by omega
  go_enter Tryd.func35, Tryd.ntmps35
  go_wp2_with fail
  go_loopw [3, 11] (fun _ i wr => wr = w ∧ ∃ k : Nat, k ≤ l.length ∧ i = .int .i64 k) (fun _ i _ => l.length - (intOf i).toNat)
  case atStart => exact ⟨rfl, 0, Nat.zero_le _, rfl⟩
  case round =>
    obtain ⟨rfl, k, hk, rfl⟩ := hrel
    by_cases hlt : k < l.length
    · have ik : (k : Int) < ((tx l).size : Int) := by omega
      have ik0 : (0 : Int) ≤ (k : Int) := by omega
      obtain ⟨b, hb⟩ : ∃ b, l[k]? = some b := ⟨l[k], List.getElem?_eq_getElem hlt⟩
      have hbk : ∀ h, (tx l)[k]'h = b := fun h => by
        obtain ⟨_, e⟩ := List.getElem?_eq_some_iff.1 hb
        exact e
      obtain ⟨m1, m2⟩ := HM.out b (List.mem_of_getElem? hb)
      have f1 : ¬ ((b.toNat : Int) < 48) := by omega
      have f2 : ¬ (57 < (b.toNat : Int)) := by omega
      go_wp2_with fail
      refine ⟨⟨trivial, k + 1, by omega, by go_num⟩, by simp [intOf]; omega⟩
    · obtain rfl : k = l.length := by omega
      have ik : ¬ ((l.length : Int) < ((tx l).size : Int)) := by omega
      go_wp2_with (go_at_call 51; refine (A.out _).mono ?_; rintro e w' ⟨rfl, t, rfl⟩)
      go_ret
      exact ⟨rfl, Go.Joins.below_bytesWorld _ _ _ _ (Nat.le_refl _)⟩
end Go.Proofs.YtefadlbfkhndfaaDoor
